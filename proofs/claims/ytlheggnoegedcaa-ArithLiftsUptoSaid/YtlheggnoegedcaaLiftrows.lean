/- Rows: the reference's answer. -/
import Derived.Test.YtlheggnoegedcaaLiftref
import Derived.Deep.RegionHeld3
namespace Go.Proofs.Ytlheggnoegedcaa
set_option linter.unusedVariables false
open Go.ChangeShapes Go.WideShapes Go.ChangeAt Go.RowKit
/-- The four forms. -/
def Form (op : Int) (m : Nat) : Prop := m = 1 ∨ m = 2 ∧ isPr op = true ∨ m = 2 ∧ isPr op = false ∨ 3 ≤ m
theorem form_of (op : Int) (m : Nat) (h : 0 < m) : Form op m := by
  unfold Form
  cases isPr op <;> simp <;> omega
set_option maxRecDepth 100000 in
set_option maxHeartbeats 16000000 in
theorem lift_ref_rows (op : Int) (b o m cap : Nat) (A : Nat → Option Addr) (N : Nat) (c : Nat → Nat) (g : Nat → Nat → Int) (w : World)
    (hmany : m ≤ 1048576) (hfew : N ≤ 1048576) (hb : b < w.heap.size) (hc0 : ∀ i, i < m → w.cell? ⟨b, o + i, none⟩ = some (.slice (A i) N (c i))) (hw0 : ∀ i, i < m → Wd w (A i) N (g i))
    (hm : (m : Int) = arS op) (hm0 : 0 < m) :
    Calls Try.prog 25 #[.int .u16 op, .slice (some ⟨b, o, none⟩) m cap] w fun e w' => (∃ v, e = .returned (.tuple #[v, .int .i64 0]) ∧ w'.ownsRow w.heap.size 23 1 v (liLen op m N) (wl (liW op m N g) (liLen op m N))) ∧ Below w.heap.size w w' := by
  have c0 := arity_ref op
  rw [← hm] at c0
  have hB := Below.refl w.heap.size w
  have h1 : ((m : Int) == 0) = false := by simp; omega
  have hc := hid hc0
  have hw := hid hw0
  have hAr := hid hm
  have hForm := hid (form_of op m hm0)
  clear hm hc0 hw0
  go_enter Try.func25, Try.ntmps25
  go_wp2_with (go_at_call 21; (with_reducible refine (c0 _).mono ?_); rintro e w1 ⟨rfl, hn1⟩; replace hB := bcall hB hn1; clear hn1)
  clear c0
  go_loopw [6] (fun i wr => ∃ k : Nat, k ≤ m ∧ i = .int .i64 k ∧ Below w.heap.size w wr) (fun i _ => m - (intOf i).toNat)
  case atStart => exact ⟨0, by omega, rfl, hB⟩
  case round =>
    clear hB
    obtain ⟨k, hk, rfl, hBl⟩ := hrel
    by_cases hlt : k < m
    · have d0 : wr.cell? ⟨b, o, none⟩ = some (.slice (A 0) N (c 0)) := (hBl.cell (p := ⟨b, o, none⟩) hb).trans (hc.out 0 (by omega))
      have d1 : wr.cell? ⟨b, o + k, none⟩ = some (.slice (A k) N (c k)) := (hBl.cell (p := ⟨b, o + k, none⟩) hb).trans (hc.out k hlt)
      go_wp2
      go_quiet (fail)
      go_wp2
      go_roundw
      case rel => exact ⟨k + 1, by omega, by go_num, belowN hBl _⟩
      case measure => simp [intOf]; omega
    · have hkm : k = m := by omega
      subst hkm
      clear hlt hk
      go_wp2
      go_loopw [7, 8, 9, 10] (fun ct v1 v2 i wq => ∃ j : Nat, j ≤ N ∧ i = .int .i64 j ∧ ct = .int .i64 (cnt (g 0) j) ∧ Rows2 (two op k) wq w.heap.size j (fun j => liF op k (fun i => g i j)) (fun j => liS op (fun i => g i j)) v1 v2 ∧ Below w.heap.size w wq) (fun _ _ _ i _ => N - (intOf i).toNat)
      case atStart => exact ⟨0, by omega, rfl, rfl, Rows2.none _ _ _ _ _, hBl⟩
      case round =>
        clear hBl
        rename World => wq
        obtain ⟨j, hj, rfl, rfl, hR, hBq⟩ := hrel
        have hcl := cnt_le (g 0) j
        by_cases hlt : j < N
        · have e0 : wq.cell? ⟨b, o, none⟩ = some (.slice (A 0) N (c 0)) := (hBq.cell (p := ⟨b, o, none⟩) hb).trans (hc.out 0 (by omega))
          obtain ⟨b0, o0, hA0, hb0, hcw0⟩ := (hw.out 0 (by omega)).at_ (by omega)
          rw [hA0] at e0
          have e1 : wq.cell? ⟨b0, o0 + j, none⟩ = some (.int .u32 (g 0 j)) := (hBq.cell (p := ⟨b0, o0 + j, none⟩) hb0).trans (hcw0 j hlt)
          have HR := hid hR
          have HA0 := hid hA0
          have q0 : 0 ≤ g 0 j := (hw.out 0 (by omega)).lo j hlt
          have q0' : g 0 j < 4294967296 := (hw.out 0 (by omega)).hi j hlt
          clear hcw0 hR hA0
          obtain ⟨z, t, hz, hbit, hzt⟩ : ∃ z : Nat, ∃ t : Bool, Hid (cnt (g 0) (j + 1) = cnt (g 0) j + z) ∧ (g 0 j != 0) = t ∧ Hid (t = false ∧ z = 0 ∨ t = true ∧ z = 1) := by
            by_cases e : g 0 j = 0
            · exact ⟨0, false, by show _ = _; simp [cnt, e], by simpa using e, .inl ⟨rfl, rfl⟩⟩
            · exact ⟨1, true, by show _ = _; simp [cnt, e], by simpa using e, .inr ⟨rfl, rfl⟩⟩
          rcases hzt.out with ⟨rfl, rfl⟩ | ⟨rfl, rfl⟩
          all_goals
          go_wp2
          go_loopw [11, 12] (fun ws i wr => ∃ q : Nat, q ≤ k ∧ i = .int .i64 q ∧ wr.ownsRow wq.heap.size 23 1 ws q (wl (fun i => g i j) q) ∧ Below wq.heap.size wq wr) (fun _ i _ => k - (intOf i).toNat)
          case atStart => exact ⟨0, by omega, rfl, World.ownsRow_nil _ _ _ _, Below.refl _ _⟩
          case round =>
            obtain ⟨q, hq, rfl, ho, hB2⟩ := hrel
            by_cases hqk : q < k
            · obtain ⟨bq, oq, hAq, hbq, hcwq⟩ := (hw.out q hqk).at_ (by omega)
              have hBw : Below w.heap.size w wr := bcall hBq hB2
              have f0 : wr.cell? ⟨b, o + q, none⟩ = some (.slice (some ⟨bq, oq, none⟩) N (c q)) := by rw [← hAq]; exact (hBw.cell (p := ⟨b, o + q, none⟩) hb).trans (hc.out q hqk)
              have f1 : wr.cell? ⟨bq, oq + j, none⟩ = some (.int .u32 (g q j)) := (hBw.cell (p := ⟨bq, oq + j, none⟩) hbq).trans (hcwq j hlt)
              have HO := hid ho
              have hs1 : (q + 1) * 4 ≤ 140737488355328 := by omega
              have hs2 : wq.heap.size ≤ wr.heap.size := hB2.size
              clear hAq hcwq ho hBw e0 e1
              go_wp2_with (refine push_one rfl _ _ rfl wq.heap.size u11 q (fun i => g i j) rfl HO.out _ rfl rfl hs1 hs2 ?_; intro g' cap' w' h1' h2' h3' h4')
              go_roundw
              case rel => exact ⟨q + 1, by omega, by go_num, h1', below_grown hB2 h2' (fun k hk => (HO.out.lt k hk).1)⟩
              case measure => simp [intOf]; omega
            · obtain rfl : k = q := by omega
              clear hqk hq e0 e1
              obtain ⟨g0, cp, rfl, hg0, hg1⟩ := ho.form hm0
              have hWd := hid (Wd.own ho (by omega) (fun i hi => (hw.out i hi).lo j hlt) (fun i hi => (hw.out i hi).hi j hlt))
              have d0 : wr.cell? ⟨g0, 0, none⟩ = some (.int .u32 (g 0 j)) := by rw [ho.cellAt 0 (by omega), wl_get _ _ _ hm0]
              have HO := hid ho
              have hs3 : (j + 1) * 4 ≤ 140737488355328 := by omega
              rcases hForm.out with rfl | ⟨rfl, hp⟩ | ⟨rfl, hp⟩ | h3
              · have c1 := unary_ref op (g 0 j) q0 q0'
                clear ho
                go_wp2_with (first | (go_at_call 19; (with_reducible refine (c1 _).mono ?_); rintro e w3 ⟨rfl, hn3⟩) | (refine push_one rfl _ _ rfl w.heap.size u8 j (fun j => liF op 1 (fun i => g i j)) rfl ((HR.out.below hB2).below hn3).1 _ rfl rfl hs3 (bcall (bcall hBq hB2) hn3).size ?_; intro g' cap' w' h1' h2' h3' h4'))
                refine ⟨?_, ?measure⟩
                iterate 112 apply Exists.intro
                refine ⟨?rel, rfl⟩
                case rel => exact ⟨j + 1, by omega, by go_num, by rw [hz.out]; first | rfl | go_num, HR.out.one rfl h1', below_grown (bcall (bcall hBq hB2) hn3) h2' (fun k hk => (HR.out.1.lt k hk).1)⟩
                case measure => simp [intOf]; omega
              · have q1 : 0 ≤ g 1 j := (hw.out 1 (by omega)).lo j hlt
                have q1' : g 1 j < 4294967296 := (hw.out 1 (by omega)).hi j hlt
                have d1 : wr.cell? ⟨g0, 1, none⟩ = some (.int .u32 (g 1 j)) := by rw [ho.cellAt 1 (by omega), wl_get _ _ _ (by omega)]
                have c1 := fun W => (pair_ref op (g 0 j) (g 1 j) q0 q0' q1 q1' W).mono (R' := fun e w' => e = .returned (.tuple #[.int .u32 (pairS op (g 0 j) (g 1 j)).1, .int .u32 (pairS op (g 0 j) (g 1 j)).2.1, .bool true]) ∧ w' = W) (by
                  rintro e w' ⟨rfl, rfl⟩
                  refine ⟨?_, rfl⟩
                  rw [three, pr_is, hp])
                have EF : Hid ((pairS op (g 0 j) (g 1 j)).1 = (fun j => liF op 2 (fun i => g i j)) j) := by
                  show _ = liF op 2 _
                  unfold liF
                  rw [if_neg (by omega), if_pos rfl, hp]
                  rfl
                have ES : Hid ((pairS op (g 0 j) (g 1 j)).2.1 = (fun j => liS op (fun i => g i j)) j) := rfl
                have HT := hid hp
                clear ho hp
                generalize (pairS op (g 0 j) (g 1 j)).1 = x at c1 EF
                generalize (pairS op (g 0 j) (g 1 j)).2.1 = y at c1 ES
                go_wp2
                go_quiet ((go_at_call 13; exact Calls.quiet_of_same (c1 _)))
                have hq : Below wr.heap.size wr (wr.drewN nq) := belowN (Below.refl _ _) nq
                clear c1 d0 d1
                generalize wr.drewN nq = w3 at hq ⊢
                have R3 := hid ((HR.out.below hB2).below hq)
                have hB3 := bcall (bcall hBq hB2) hq
                obtain ⟨ho2, hap⟩ : w3.ownsRow w.heap.size 23 1 u9 j (wl (fun j => liS op (fun i => g i j)) j) ∧ Apart u8 u9 := by
                  rcases R3.out.2 with ⟨ht, _⟩ | ⟨_, h2⟩
                  · simp [two, HT.out] at ht
                  · exact h2
                have HO2 := hid ho2
                have HAP := hid hap
                clear ho2 hap
                go_wp2_with (first | (refine push_one rfl _ _ rfl w.heap.size u8 j (fun j => liF op 2 (fun i => g i j)) rfl R3.out.1 _ rfl EF.out hs3 hB3.size ?_; intro g1 cap1 w4 p1 p2 p3 p4) | (refine push_one rfl _ _ rfl w.heap.size u9 j (fun j => liS op (fun i => g i j)) rfl (HO2.out.kept p2 HAP.out.ne) _ rfl ES.out hs3 (Nat.le_trans hB3.size p2.size) ?_; intro g2 cap2 w5 r1 r2 r3 r4))
                have hne := HAP.out.step (fun k hk => (HO2.out.lt k hk).2) p3
                refine ⟨?_, ?measure⟩
                iterate 112 apply Exists.intro
                refine ⟨?rel, rfl⟩
                case rel => exact ⟨j + 1, by omega, by go_num, by rw [hz.out]; first | rfl | go_num, ⟨p1.kept r2 (.inr (Ne.symm hne)), .inr ⟨by rw [two, HT.out]; rfl, r1, Apart.both hne p4 r3⟩⟩, below_grown (below_grown hB3 p2 (fun k hk => (R3.out.1.lt k hk).1)) r2 (fun k hk => (HO2.out.lt k hk).1)⟩
                case measure => simp [intOf]; omega
              · have q1 : 0 ≤ g 1 j := (hw.out 1 (by omega)).lo j hlt
                have q1' : g 1 j < 4294967296 := (hw.out 1 (by omega)).hi j hlt
                have d1 : wr.cell? ⟨g0, 1, none⟩ = some (.int .u32 (g 1 j)) := by rw [ho.cellAt 1 (by omega), wl_get _ _ _ (by omega)]
                have c1 := fun W => (pair_ref op (g 0 j) (g 1 j) q0 q0' q1 q1' W).mono (R' := fun e w' => e = .returned (.tuple #[.int .u32 (pairS op (g 0 j) (g 1 j)).1, .int .u32 (pairS op (g 0 j) (g 1 j)).2.1, .bool false]) ∧ w' = W) (by
                  rintro e w' ⟨rfl, rfl⟩
                  refine ⟨?_, rfl⟩
                  rw [three, pr_is, hp])
                have c2 := binary_ref op (g 0 j) (g 1 j) q0 q0' q1 q1'
                have EF : Hid (binS op (g 0 j) (g 1 j) = (fun j => liF op 2 (fun i => g i j)) j) := by
                  show _ = liF op 2 _
                  unfold liF
                  rw [if_neg (by omega), if_pos rfl, hp]
                  rfl
                have HT := hid hp
                clear ho hp
                generalize (pairS op (g 0 j) (g 1 j)).1 = x at c1
                generalize (pairS op (g 0 j) (g 1 j)).2.1 = y at c1
                generalize binS op (g 0 j) (g 1 j) = z1 at c2 EF
                go_wp2
                go_quiet ((go_at_call 13; exact Calls.quiet_of_same (c1 _)))
                have hq : Below wr.heap.size wr (wr.drewN nq) := belowN (Below.refl _ _) nq
                replace d0 : (wr.drewN nq).cell? ⟨g0, 0, none⟩ = some (.int .u32 (g 0 j)) := d0
                replace d1 : (wr.drewN nq).cell? ⟨g0, 1, none⟩ = some (.int .u32 (g 1 j)) := d1
                clear c1
                generalize wr.drewN nq = w3 at hq d0 d1 ⊢
                have R3 := hid ((HR.out.below hB2).below hq)
                have hB3 := bcall (bcall hBq hB2) hq
                go_wp2_with fail
                go_region_held3 (fun w' => w'.cell? ⟨g0, 0, none⟩ = some (.int .u32 (g 0 j)) ∧ w'.cell? ⟨g0, 1, none⟩ = some (.int .u32 (g 1 j))) (go_keep)
                  (first | (go_at_call 15; (with_reducible refine (c2 _).mono ?_); rintro e w4 ⟨rfl, hn4⟩; have k0 := (hn4.cell (p := ⟨g0, 0, none⟩) (block_lt_of_cell (by assumption))).trans (by assumption); have k1 := (hn4.cell (p := ⟨g0, 1, none⟩) (block_lt_of_cell (by assumption))).trans (by assumption)))
                replace hn4 : Below w3.heap.size w3 w4 := ⟨hn4.os, hn4.tape, hn4.output, hn4.size, hn4.block⟩
                clear k0 k1
                go_wp2_with (refine push_one rfl _ _ rfl w.heap.size u8 j (fun j => liF op 2 (fun i => g i j)) rfl (R3.out.below hn4).1 _ rfl EF.out hs3 (bcall hB3 hn4).size ?_; intro g' cap' w' h1' h2' h3' h4')
                first
                | (refine ⟨⟨j + 1, by omega, by go_num, by rw [hz.out]; first | rfl | go_num, R3.out.one (by rw [two, HT.out]; rfl) h1', below_grown (bcall hB3 hn4) h2' (fun k hk => (R3.out.1.lt k hk).1)⟩, ?_⟩
                   simp [intOf]; omega)
                | (refine ⟨?_, ?measure⟩
                   iterate 112 apply Exists.intro
                   refine ⟨?rel, rfl⟩
                   case rel => exact ⟨j + 1, by omega, by go_num, by rw [hz.out]; first | rfl | go_num, R3.out.one (by rw [two, HT.out]; rfl) h1', below_grown (bcall hB3 hn4) h2' (fun k hk => (R3.out.1.lt k hk).1)⟩
                   case measure => simp [intOf]; omega)
              · have c1 := field_ref op (some ⟨g0, 0, none⟩) k cp (fun i => g i j)
                have t1 : ((k : Int) == 1) = false := by simp; omega
                have t2 : ((k : Int) == 2) = false := by simp; omega
                have ef : fldR op k (fun i => g i j) = (fun j => liF op k (fun i => g i j)) j := by
                  show _ = liF op k _
                  unfold liF
                  rw [if_neg (by omega), if_neg (by omega)]
                have et : two op k = false := by
                  unfold two
                  rw [decide_eq_false (by omega), Bool.false_and]
                have ET := hid et
                have EF := hid ef
                clear ho et ef
                go_wp2_with (first | (go_at_call 22; (with_reducible refine (c1 _ hWd.out).mono ?_); rintro e w3 ⟨rfl, hn3⟩) | (refine push_one rfl _ _ rfl w.heap.size u8 j (fun j => liF op k (fun i => g i j)) rfl ((HR.out.below hB2).below hn3).1 _ rfl EF.out hs3 (bcall (bcall hBq hB2) hn3).size ?_; intro g' cap' w' h1' h2' h3' h4'))
                first
                | (refine ⟨⟨j + 1, by omega, by go_num, by rw [hz.out]; first | rfl | go_num, HR.out.one ET.out h1', below_grown (bcall (bcall hBq hB2) hn3) h2' (fun k hk => (HR.out.1.lt k hk).1)⟩, ?_⟩
                   simp [intOf]; omega)
                | (refine ⟨?_, ?measure⟩
                   iterate 112 apply Exists.intro
                   refine ⟨?rel, rfl⟩
                   case rel => exact ⟨j + 1, by omega, by go_num, by rw [hz.out]; first | rfl | go_num, HR.out.one ET.out h1', below_grown (bcall (bcall hBq hB2) hn3) h2' (fun k hk => (HR.out.1.lt k hk).1)⟩
                   case measure => simp [intOf]; omega)
        · obtain rfl : N = j := by omega
          have e0 : wq.cell? ⟨b, o, none⟩ = some (.slice (A 0) N (c 0)) := (hBq.cell (p := ⟨b, o, none⟩) hb).trans (hc.out 0 (by omega))
          have HR := hid hR
          clear hlt hR
          by_cases h154 : op = 154
          · subst h154
            rcases Nat.eq_zero_or_pos (cnt (g 0) N) with hq | hq
            · have HQ := hid hq
              rw [hq]
              clear hq
              go_wp2_with (go_at_call 30; (with_reducible refine (truth_ref _ _).mono ?_); rintro e w3 ⟨rfl, rfl⟩)
              go_ret2
              refine ⟨⟨_, rfl, ?_⟩, bal hBq _⟩
              rw [(li_154 k N g).1, (li_154 k N g).2, HQ.out]
              exact own_one wq w.heap.size _ hBq.size
            · have hq2 : (0 : Int) < (cnt (g 0) N : Int) := by omega
              have HQ := hid hq
              clear hq
              go_wp2_with (go_at_call 30; (with_reducible refine (truth_ref _ _).mono ?_); rintro e w3 ⟨rfl, rfl⟩)
              go_ret2
              refine ⟨⟨_, rfl, ?_⟩, bal hBq _⟩
              rw [(li_154 k N g).1, (li_154 k N g).2, decide_eq_true HQ.out]
              exact own_one wq w.heap.size _ hBq.size
          by_cases h155 : op = 155
          · subst h155
            by_cases hq : cnt (g 0) N = N
            · have HQ := hid hq
              rw [hq]
              clear hq
              go_wp2_with (go_at_call 30; (with_reducible refine (truth_ref _ _).mono ?_); rintro e w3 ⟨rfl, rfl⟩)
              go_ret2
              refine ⟨⟨_, rfl, ?_⟩, bal hBq _⟩
              rw [(li_155 k N g).1, (li_155 k N g).2, HQ.out, beq_self_eq_true]
              exact own_one wq w.heap.size _ hBq.size
            · have hq2 : ((cnt (g 0) N : Int) == (N : Int)) = false := by simp; omega
              have HQ := hid hq
              clear hq
              go_wp2_with (go_at_call 30; (with_reducible refine (truth_ref _ _).mono ?_); rintro e w3 ⟨rfl, rfl⟩)
              go_ret2
              refine ⟨⟨_, rfl, ?_⟩, bal hBq _⟩
              rw [(li_155 k N g).1, (li_155 k N g).2, beq_false_of_ne HQ.out]
              exact own_one wq w.heap.size _ hBq.size
          have g154 : (op == 154) = false := by simpa using h154
          have g155 : (op == 155) = false := by simpa using h155
          obtain ⟨i0, hi, hz0, hz1, hz2⟩ := info_parts info23
          have H154 := hid h154
          have H155 := hid h155
          clear h154 h155
          rcases HR.out.2 with ⟨ht, rfl⟩ | ⟨ht, ho2, hap⟩
          · have HT := hid ht
            clear ht
            go_wp2_with (refine wpList_append_own_none rfl _ _ 36 rfl w.heap.size 23 i0 1 Try.underlying36 hi u8 N (wl (fun j => liF op k (fun i => g i j)) N) rfl HR.out.1 rfl ?_)
            go_ret2
            refine ⟨⟨_, rfl, ?_⟩, hBq⟩
            rw [(li_one op k N g H154.out H155.out HT.out).1, (li_one op k N g H154.out H155.out HT.out).2]
            exact HR.out.1
          · have HT := hid ht
            have HO2 := hid ho2
            clear ht ho2 hap
            rcases HO2.out.2 with ⟨rfl, h0⟩ | ⟨g2, cap2, cur2, rfl, _⟩
            · have H0 := hid h0
              clear h0
              go_wp2_with (refine wpList_append_own_none rfl _ _ 36 rfl w.heap.size 23 i0 1 Try.underlying36 hi u8 N (wl (fun j => liF op k (fun i => g i j)) N) rfl HR.out.1 rfl ?_)
              go_ret2
              refine ⟨⟨_, rfl, ?_⟩, hBq⟩
              rw [(li_two op k N g H154.out H155.out HT.out).1, (li_two op k N g H154.out H155.out HT.out).2]
              have h1 := HR.out.1
              rw [H0.out] at h1 ⊢
              exact h1
            · have hnews : ∀ j u, (wl (fun j => liS op (fun i => g i j)) N)[j]? = some u → wq.cell? ((⟨g2, 0, none⟩ : Addr).add j) = some u := HO2.out.cells rfl
              have hl : (wl (fun j => liS op (fun i => g i j)) N).length = N * 1 := by rw [wl_length]; omega
              have hs63 : N + N ≤ maxLen := by unfold maxLen; omega
              have hsb : (N + N) * 4 ≤ 140737488355328 := by omega
              have HN := hid hnews
              clear hnews
              go_wp2_with (refine wpList_append_own _ rfl _ _ 36 rfl w.heap.size 23 i0 (.int .u32 0) 1 4 Try.underlying36 hi hz0 hz1 hz2 rfl (Nat.le_refl 1) u8 N (wl (fun j => liF op k (fun i => g i j)) N) rfl HR.out.1 ⟨g2, 0, none⟩ N cap2 (wl (fun j => liS op (fun i => g i j)) N) rfl hl HN.out (wl_cells _ _) hs63 hsb hBq.size ?_; intro v' w' h1' h2' h3')
              go_ret2
              refine ⟨⟨_, rfl, ?_⟩, below_grown hBq h2' (fun k hk => (HR.out.1.lt k hk).1)⟩
              rw [(li_two op k N g H154.out H155.out HT.out).1, (li_two op k N g H154.out H155.out HT.out).2]
              rw [wl_append] at h1'
              exact h1'
end Go.Proofs.Ytlheggnoegedcaa
