/- Rows: the program's own answer. -/
import Derived.Test.YtlheggnoegedcaaLiftref2
namespace Go.Proofs.Ytlheggnoegedcaa
set_option linter.unusedVariables false
open Go.ChangeShapes Go.WideShapes Go.ChangeAt Go.RowKit
theorem app_nil (T : TypeId) (w : World) (B o c : Nat) : (Builtin.append_ #[36, 36] T #[.slice none 0 0, .slice (some ⟨B, o, none⟩) 0 c]).run Try.prog w = .ok (.slice none 0 0) w := by kernel_rfl
theorem wpList_append_nothing {w : World} {ops : Array Oper} {rest : List Oper} {o : Oper} {a : Act} {Q : Exit → Act → World → Prop} (hgd : o.guard = none) (s x : Operand)
    (ho : o.op = .call { callee := .builtin .append, args := #[s, x], argTypes := #[36, 36] }) (hs : a.eval s = .slice none 0 0) (B j c : Nat) (hx : a.eval x = .slice (some ⟨B, j, none⟩) 0 c)
    (h : wpList Try.prog ops Q rest (a.put o.dst (.slice none 0 0)) w) : wpList Try.prog ops Q (o :: rest) a w := by
  refine wpList_plain hgd fun K hK => ?_
  have hrun := app_nil o.type w B j c
  unfold Oper.wp
  simp [execOp, ho, resolve, invoke, builtin, hs, hx, hrun, Result.andThen]
  exact hK _ _ h
theorem own_wider {w : World} {b1 b2 n : Nat} {v : Value} {xs : List Value} (h : w.ownsRow b1 23 1 v n xs) (hb : b2 ≤ b1) : w.ownsRow b2 23 1 v n xs := by
  refine ⟨h.1, ?_⟩
  rcases h.2 with h2 | ⟨g, cap, cur, h1, h2, h3⟩
  · exact .inl h2
  · exact .inr ⟨g, cap, cur, h1, Nat.le_trans hb h2, h3⟩
theorem two_yes {op : Int} {m : Nat} (h : two op m = true) : m = 2 ∧ isPr op = true := by
  simpa [two] using h
theorem row_single (op : Int) (b o m cap : Nat) (g : Nat → Int) (w : World) (h : Wd w (some ⟨b, o, none⟩) m g) (hm : 0 < m) (ht : two op m = false) :
    Calls Try.prog 47 #[.int .u16 op, .slice (some ⟨b, o, none⟩) m cap] w fun e w' => Fresh w w' e 1 (liF op m g) 0 := by
  rcases form_of op m hm with rfl | ⟨rfl, hp⟩ | ⟨rfl, hp⟩ | h3
  · exact row_1 op b o cap g w h
  · simp [two, hp] at ht
  · have e : liF op 2 g = binS op (g 0) (g 1) := by
      unfold liF
      rw [if_neg (by omega), if_pos rfl, hp]
      rfl
    rw [e]
    exact row_2b op b o cap g w h hp
  · have e : liF op m g = fldR op m g := by
      unfold liF
      rw [if_neg (by omega), if_neg (by omega)]
    rw [e]
    exact row_3 op b o m cap g w h3 h
theorem row_double (op : Int) (b o cap : Nat) (g : Nat → Int) (w : World) (h : Wd w (some ⟨b, o, none⟩) 2 g) (hp : isPr op = true) :
    Calls Try.prog 47 #[.int .u16 op, .slice (some ⟨b, o, none⟩) 2 cap] w fun e w' => Fresh w w' e 2 (liF op 2 g) (liS op g) := by
  have e : liF op 2 g = (pairS op (g 0) (g 1)).1 := by
    unfold liF
    rw [if_neg (by omega), if_pos rfl, hp]
    rfl
  rw [e]
  exact row_2p op b o cap g w h hp
theorem Apart.next {v2 : Value} {s g1 g2 c1 c2 n : Nat} (h : v2.ownBlock ≠ some g1) (h1 : g1 < s) (hd : v2.ownBlock = some g2 ∨ g2 = s) : Apart (.slice (some ⟨g1, 0, none⟩) n c1) (.slice (some ⟨g2, 0, none⟩) n c2) := by
  right
  simp only [Value.ownBlock, ne_eq, Option.some.injEq]
  rintro rfl
  rcases hd with hd | hd
  · exact h hd
  · omega
/-- What stands behind the first row's growth. -/
structure Pushed (w5 w7 : World) (j B g1 cap1 : Nat) (y : Int) (F S : Nat → Int) (u7 : Value) : Prop where
  own1 : w7.ownsRow w5.heap.size 23 1 (.slice (some ⟨g1, 0, none⟩) (j + 1) cap1) (j + 1) (wl F (j + 1))
  own2 : w7.ownsRow w5.heap.size 23 1 u7 j (wl S j)
  below : Below w5.heap.size w5 w7
  news : ∀ k, k < 1 → w7.cell? ⟨B, 1 + k, none⟩ = some (.int .u32 y)
  ne : u7.ownBlock ≠ some g1
theorem pushed {w5 wr w6 w7 : World} {j B g1 cap1 : Nat} {y : Int} {F S : Nat → Int} {u6 u7 : Value} (o1 : wr.ownsRow w5.heap.size 23 1 u6 j (wl F j)) (o2 : wr.ownsRow w5.heap.size 23 1 u7 j (wl S j)) (hap : Apart u6 u7)
    (hn6 : Below wr.heap.size wr w6) (hb6 : Below w5.heap.size w5 w6) (hhi : B < w6.heap.size) (hlo : wr.heap.size ≤ B) (hcy : w6.cell? ⟨B, 1, none⟩ = some (.int .u32 y))
    (p1 : w7.ownsRow w5.heap.size 23 1 (.slice (some ⟨g1, 0, none⟩) (j + 1) cap1) (j + 1) (wl F (j + 1))) (p2 : w6.grownBy w7 u6.ownBlock) (p3 : u6.ownBlock = some g1 ∨ w6.heap.size < g1) : Pushed w5 w7 j B g1 cap1 y F S u7 := by
  refine ⟨p1, (own_below o2 hn6).kept p2 hap.ne, below_grown hb6 p2 (fun k hk => (o1.lt k hk).1), ?_, ?_⟩
  · intro k hk
    obtain rfl : k = 0 := by omega
    exact (p2.cell_far ⟨B, 1, none⟩ hhi (fun e => by have := (o1.lt B e.symm).2; omega)).trans hcy
  · exact hap.step (fun k hk => (o2.lt k hk).2) (p3.imp id (fun h => Nat.lt_of_le_of_lt hn6.size h))
set_option maxRecDepth 100000 in
set_option maxHeartbeats 16000000 in
theorem lift_own_rows (op : Int) (b o m cap : Nat) (A : Nat → Option Addr) (N : Nat) (c : Nat → Nat) (g : Nat → Nat → Int) (w : World)
    (hmany : m ≤ 1048576) (hfew : N ≤ 1048576) (hb : b < w.heap.size) (hc0 : ∀ i, i < m → w.cell? ⟨b, o + i, none⟩ = some (.slice (A i) N (c i))) (hw0 : ∀ i, i < m → Wd w (A i) N (g i))
    (hm : (m : Int) = arS op) (hm0 : 0 < m) :
    Calls Try.prog 26 #[.int .u16 op, .slice (some ⟨b, o, none⟩) m cap] w fun e w' => (∃ v, e = .returned (.tuple #[v, .int .i64 0]) ∧ w'.ownsRow w.heap.size 23 1 v (liLen op m N) (wl (liW op m N g) (liLen op m N))) ∧ Below w.heap.size w w' := by
  have c0 := arity_own op
  rw [← hm] at c0
  have h1 : ((m : Int) == 0) = false := by simp; omega
  have hAr := hid hm
  have hForm := hid (form_of op m hm0)
  have c1 := fun (w4 : World) (hn4 : Below (w.alloc (.cells #[.slice (some ⟨b, o, none⟩) m cap] 44)).drew.heap.size (w.alloc (.cells #[.slice (some ⟨b, o, none⟩) m cap] 44)).drew w4) =>
    uneven_no w.heap.size b o m cap A (fun _ => N) c w4 (unbox_lt hn4) (unbox_cell hn4) (Nat.lt_of_lt_of_le hb (unbox hn4).size) (rows_cells (n := fun _ => N) hb (unbox hn4) hc0) hmany (fun _ _ => rfl)
  have hc := hid hc0
  have hw := hid hw0
  clear hm hc0 hw0
  unfold fuv at c1
  go_enter Try.func26, Try.ntmps26
  go_wp2_with fail
  go_region_held3 (fun w' => w'.cell? ⟨w.heap.size, 0, none⟩ = some (.slice (some ⟨b, o, none⟩) m cap)) (go_keep)
    (first | (go_at_call 20; (with_reducible refine (c0 _).mono ?_); rintro e w4 ⟨rfl, hn4⟩; have k0 := unbox_cell hn4) | (go_at_call 41; (with_reducible refine (c1 _ hn4).mono ?_); rintro e w5 ⟨rfl, hn5⟩; have k1 := (hn5.cell (p := ⟨w.heap.size, 0, none⟩) (unbox_lt hn4)).trans k0))
  have hB5 : Below w.heap.size w w5 := bcall (unbox hn4) hn5
  have hl5 : w.heap.size < w5.heap.size := Nat.lt_of_lt_of_le (unbox_lt hn4) hn5.size
  have hb5 : b < w5.heap.size := by omega
  have hc5 := hid (fun i hi => (hB5.cell (p := ⟨b, o + i, none⟩) hb).trans (hc.out i hi))
  have hw5 := hid (fun i hi => (hw.out i hi).below hB5)
  clear hn4 hn5 k0 c0 c1 hc hw
  have e0 : w5.cell? ⟨b, o, none⟩ = some (.slice (A 0) N (c 0)) := hc5.out 0 (by omega)
  by_cases h154 : op = 154
  · subst h154
    have c44 := contains_func (A 0) N (c 0) (g 0) w5 (hw5.out 0 hm0).cw
    unfold fv at c44
    clear hb
    go_wp2_with (first | (go_at_call 44; (with_reducible refine c44.mono ?_); rintro e w6 ⟨rfl, hn6⟩) | (go_at_call 43; (with_reducible refine (truth_own _ _).mono ?_); rintro e w7 ⟨rfl, rfl⟩))
    go_ret2
    refine ⟨⟨_, rfl, ?_⟩, bal (bcall hB5 hn6) _⟩
    rw [(li_154 m N g).1, (li_154 m N g).2]
    exact own_one w6 w.heap.size _ (bcall hB5 hn6).size
  by_cases h155 : op = 155
  · subst h155
    have c46 := contains_zero (A 0) N (c 0) (g 0) w5 (hw5.out 0 hm0).cw
    clear hb
    go_wp2_with (first | (go_at_call 46; (with_reducible refine c46.mono ?_); rintro e w6 ⟨rfl, hn6⟩) | (go_at_call 43; (with_reducible refine (truth_own _ _).mono ?_); rintro e w7 ⟨rfl, rfl⟩))
    go_ret2
    refine ⟨⟨_, rfl, ?_⟩, bal (bcall hB5 hn6) _⟩
    rw [(li_155 m N g).1, (li_155 m N g).2]
    exact own_one w6 w.heap.size _ (bcall hB5 hn6).size
  have g154 : (op == 154) = false := by simpa using h154
  have g155 : (op == 155) = false := by simpa using h155
  have H154 := hid h154
  have H155 := hid h155
  clear h154 h155 hb
  go_wp2
  go_loopw [6, 7, 50] (fun v1 v2 i wq => ∃ j : Nat, j ≤ N ∧ i = .int .i64 j ∧ Rows2 (two op m) wq w5.heap.size j (fun j => liF op m (fun i => g i j)) (fun j => liS op (fun i => g i j)) v1 v2 ∧ Below w5.heap.size w5 wq) (fun _ _ i _ => N - (intOf i).toNat)
  case atStart => exact ⟨0, by omega, rfl, Rows2.none _ _ _ _ _, Below.refl _ _⟩
  case round =>
    rename World => wq
    obtain ⟨j, hj, rfl, hR, hBq⟩ := hrel
    have HR := hid hR
    have hkq : wq.cell? ⟨w.heap.size, 0, none⟩ = some (.slice (some ⟨b, o, none⟩) m cap) := (hBq.cell (p := ⟨w.heap.size, 0, none⟩) hl5).trans k1
    clear hR k1 e0
    by_cases hlt : j < N
    · go_wp2
      go_loopw [9, 55] (fun ws i wr => ∃ q : Nat, q ≤ m ∧ i = .int .i64 q ∧ wr.ownsRow wq.heap.size 23 1 ws q (wl (fun i => g i j) q) ∧ Below wq.heap.size wq wr) (fun _ i _ => m - (intOf i).toNat)
      case atStart => exact ⟨0, by omega, rfl, World.ownsRow_nil _ _ _ _, Below.refl _ _⟩
      case round =>
        clear hkq
        obtain ⟨q, hq, rfl, ho, hB2⟩ := hrel
        by_cases hqk : q < m
        · obtain ⟨bq, oq, hAq, hbq, hcwq⟩ := (hw5.out q hqk).at_ (by omega)
          have hBw : Below w5.heap.size w5 wr := bcall hBq hB2
          have f0 : wr.cell? ⟨b, o + q, none⟩ = some (.slice (some ⟨bq, oq, none⟩) N (c q)) := by rw [← hAq]; exact (hBw.cell (p := ⟨b, o + q, none⟩) hb5).trans (hc5.out q hqk)
          have f1 : wr.cell? ⟨bq, oq + j, none⟩ = some (.int .u32 (g q j)) := (hBw.cell (p := ⟨bq, oq + j, none⟩) hbq).trans (hcwq j hlt)
          have HO := hid ho
          have hs1 : (q + 1) * 4 ≤ 140737488355328 := by omega
          have hs2 : wq.heap.size ≤ wr.heap.size := hB2.size
          clear hAq hcwq ho hBw
          go_wp2_with (refine push_one rfl _ _ rfl wq.heap.size u9 q (fun i => g i j) rfl HO.out _ rfl rfl hs1 hs2 ?_; intro g' cap' w' h1' h2' h3' h4')
          go_roundw
          case rel => exact ⟨q + 1, by omega, by go_num, h1', below_grown hB2 h2' (fun k hk => (HO.out.lt k hk).1)⟩
          case measure => simp [intOf]; omega
        · obtain rfl : m = q := by omega
          clear hqk hq
          obtain ⟨g0, cp, rfl, hg0, hg1⟩ := ho.form hm0
          have hWd := hid (Wd.own ho (by omega) (fun i hi => (hw5.out i hi).lo j hlt) (fun i hi => (hw5.out i hi).hi j hlt))
          have hs3 : (j + 1) * 4 ≤ 140737488355328 := by omega
          have hBw : Below w5.heap.size w5 wr := bcall hBq hB2
          rcases (HR.out.below hB2).2 with ⟨ht, rfl⟩ | ⟨ht, ho2, hap⟩
          · have c47 := row_single op g0 0 m cp (fun i => g i j) wr hWd.out hm0 ht
            have HT := hid ht
            have HO1 := hid (HR.out.below hB2).1
            clear ho ht hBq hB2
            generalize hF : liF op m (fun i => g i j) = z at c47
            have HF := hid hF
            clear hF
            go_wp2_with (first | (go_at_call 47; (with_reducible refine c47.mono ?_); rintro e w6 ⟨⟨B, rfl, hlo, hhi, hcx, _⟩, hn6⟩) | (refine push_one rfl _ _ rfl w5.heap.size u6 j (fun j => liF op m (fun i => g i j)) rfl (own_below HO1.out hn6) _ rfl HF.out.symm hs3 (bcall hBw hn6).size ?_; intro g' cap' w' h1' h2' h3' h4') | (refine wpList_append_nothing rfl _ _ rfl rfl _ _ _ rfl ?_))
            go_roundw
            case rel => exact ⟨j + 1, by omega, by go_num, ⟨h1', .inl ⟨HT.out, rfl⟩⟩, below_grown (bcall hBw hn6) h2' (fun k hk => (HO1.out.lt k hk).1)⟩
            case measure => simp [intOf]; omega
          · obtain ⟨rfl, hp⟩ := two_yes ht
            have c47 := row_double op g0 0 cp (fun i => g i j) wr hWd.out hp
            have HT := hid ht
            have HO1 := hid (HR.out.below hB2).1
            have HO2 := hid ho2
            have HAP := hid hap
            clear ho ht hp ho2 hap hBq hB2
            generalize hF : liF op 2 (fun i => g i j) = z at c47
            generalize hS : liS op (fun i => g i j) = y at c47
            have HF := hid hF
            have HS := hid hS
            clear hF hS
            go_wp2_with (first | (go_at_call 47; (with_reducible refine c47.mono ?_); rintro e w6 ⟨⟨B, rfl, hlo, hhi, hcx, hcy0⟩, hn6⟩; have hcy := hid (hcy0 rfl); clear hcy0) | (refine push_one rfl _ _ rfl w5.heap.size u6 j (fun j => liF op 2 (fun i => g i j)) rfl (own_below HO1.out hn6) _ rfl HF.out.symm hs3 (bcall hBw hn6).size ?_; intro g1 cap1 w7 p1 p2 p3 p4; have HQ := hid (pushed HO1.out HO2.out HAP.out hn6 (bcall hBw hn6) hhi hlo hcy.out p1 p2 p3); clear hcx p1 p2 p3) | (refine push_words rfl _ _ rfl w5.heap.size u7 j (fun j => liS op (fun i => g i j)) rfl HQ.out.own2 B 1 1 1 (fun _ => y) rfl HQ.out.news (by omega) hs3 HQ.out.below.size ?_; intro g2 cap2 w8 r1 r2 r3 r4))
            refine ⟨?_, ?measure⟩
            iterate 37 apply Exists.intro
            refine ⟨?rel, rfl⟩
            case rel =>
              refine ⟨j + 1, by omega, by go_num, ⟨HQ.out.own1.kept r2 (.inr (Ne.symm HQ.out.ne)), .inr ⟨HT.out, ?_, Apart.next HQ.out.ne p4 r3⟩⟩, below_grown HQ.out.below r2 (fun k hk => (HQ.out.own2.lt k hk).1)⟩
              rw [wl_congr (g := fun j => liS op (fun i => g i j)) (j + 1) (fun k hk => by
                by_cases e : k < j
                · rw [if_pos e]
                · rw [if_neg e, show k = j by omega, HS.out])] at r1
              exact r1
            case measure => simp [intOf]; omega
    · obtain rfl : N = j := by omega
      clear hlt
      obtain ⟨i0, hi, hz0, hz1, hz2⟩ := info_parts info23
      rcases HR.out.2 with ⟨ht, rfl⟩ | ⟨ht, ho2, hap⟩
      · have HT := hid ht
        clear ht
        go_wp2_with (refine wpList_append_own_none rfl _ _ 36 rfl w5.heap.size 23 i0 1 Try.underlying36 hi u6 N (wl (fun j => liF op m (fun i => g i j)) N) rfl HR.out.1 rfl ?_)
        go_ret2
        refine ⟨⟨_, rfl, ?_⟩, bcall hB5 hBq⟩
        rw [(li_one op m N g H154.out H155.out HT.out).1, (li_one op m N g H154.out H155.out HT.out).2]
        exact own_wider HR.out.1 hB5.size
      · have HT := hid ht
        have HO2 := hid ho2
        clear ht ho2 hap
        rcases HO2.out.2 with ⟨rfl, h0⟩ | ⟨g2, cap2, cur2, rfl, _⟩
        · have H0 := hid h0
          clear h0
          go_wp2_with (refine wpList_append_own_none rfl _ _ 36 rfl w5.heap.size 23 i0 1 Try.underlying36 hi u6 N (wl (fun j => liF op m (fun i => g i j)) N) rfl HR.out.1 rfl ?_)
          go_ret2
          refine ⟨⟨_, rfl, ?_⟩, bcall hB5 hBq⟩
          rw [(li_two op m N g H154.out H155.out HT.out).1, (li_two op m N g H154.out H155.out HT.out).2]
          have h1 := own_wider HR.out.1 hB5.size
          rw [H0.out] at h1 ⊢
          exact h1
        · have hnews : ∀ j u, (wl (fun j => liS op (fun i => g i j)) N)[j]? = some u → wq.cell? ((⟨g2, 0, none⟩ : Addr).add j) = some u := HO2.out.cells rfl
          have hl : (wl (fun j => liS op (fun i => g i j)) N).length = N * 1 := by rw [wl_length]; omega
          have hs63 : N + N ≤ maxLen := by unfold maxLen; omega
          have hsb : (N + N) * 4 ≤ 140737488355328 := by omega
          have HN := hid hnews
          clear hnews
          go_wp2_with (refine wpList_append_own _ rfl _ _ 36 rfl w5.heap.size 23 i0 (.int .u32 0) 1 4 Try.underlying36 hi hz0 hz1 hz2 rfl (Nat.le_refl 1) u6 N (wl (fun j => liF op m (fun i => g i j)) N) rfl HR.out.1 ⟨g2, 0, none⟩ N cap2 (wl (fun j => liS op (fun i => g i j)) N) rfl hl HN.out (wl_cells _ _) hs63 hsb hBq.size ?_; intro v' w' h1' h2' h3')
          go_ret2
          refine ⟨⟨_, rfl, ?_⟩, bcall hB5 (below_grown hBq h2' (fun k hk => (HR.out.1.lt k hk).1))⟩
          rw [(li_two op m N g H154.out H155.out HT.out).1, (li_two op m N g H154.out H155.out HT.out).2]
          rw [wl_append] at h1'
          exact own_wider h1' hB5.size
end Go.Proofs.Ytlheggnoegedcaa
