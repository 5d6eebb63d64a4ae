/- Memory: New, Make, Len. -/
import Derived.Test.YtlkolghiknbbfaaGreatDoorDb
import Derived.Deep.Onto
import Derived.Laws.CopyOwn
set_option linter.unusedVariables false
set_option linter.unusedSimpArgs false
set_option maxRecDepth 100000
set_option maxHeartbeats 4000000
namespace Go.Proofs.YtlkolghiknbbfaaGreatDoor
open Go.RowKit Go.MapKept
def wV (l : List Nat) : List Value := l.map fun x : Nat => .int .u32 (x : Int)
theorem Dq (l : List Nat) : (wV l).length = l.length := by simp [wV]
theorem Own.base0 {X : Nat → Prop} {w W : World} {L : List As} {base n sz : Nat} {e : TypeId} {v : Value} {xs : List Value} (h : Own X w (bM base e sz v n xs :: L) W) : Own X w (bM 0 e sz v n xs :: L) W :=
 h.recast 0 (A' := bM 0 e sz v n xs) rfl (fun k hk => hk) ((h.at 0 rfl : W.ownsRow base e sz v n xs).mono (Nat.zero_le _))
theorem uk (b q c : Nat) (ys : List Nat) (h0 : 0 < ys.length) (hn : ys.length ≤ 1048576) (w : World) (h : ∀ j u, (wV ys)[j]? = some u → w.cell? ⟨b, q + j, none⟩ = some u) :
  Calls Tryz.prog 114 #[.slice (some ⟨b, q, none⟩) ys.length c] w fun e w' => ∃ g' c', e = .returned (.slice (some ⟨g', 0, none⟩) ys.length c') ∧ Own aK w [bM 0 22 1 (.slice (some ⟨g', 0, none⟩) ys.length c') ys.length (wV ys)] w' := by
 have HO := Own.nil w;have he : ∀ w, (binOp .eql 24 (.slice (some ⟨b, q, none⟩) ys.length c) (.slice none 0 0)).run Tryz.prog w = .ok (.bool false) w := fun _ => by kernel_rfl
 have hc : ∀ W, Bl w W → ∀ j u, (wV ys)[j]? = some u → W.cell? ⟨b, q + j, none⟩ = some u := fun W hb j u hu => ae (h j u hu) (block_lt_of_cell (h j u hu)) hb
 have h1 : ∀ u ∈ wV ys, u.oneCell' = true := fun u hu => by
  obtain ⟨a, -, rfl⟩ := List.mem_map.1 hu;simp [Value.oneCell']
 clear h;go_enter Tryz.func114, Tryz.ntmps114;go_wp2_with (first | ((with_reducible refine aM HO ?_); clear HO; (try clear kk); intro g W' hg HO; rw [← hg.out]; clear hg; (try simp only [yT] at HO); have kk := HO.kk) | ((with_reducible refine aA ?_); replace HO := HO.empty 1 (HO.le 0 rfl); refine xN HO ky 0 rfl b q ys.length c (wV ys) rfl _ _ rfl rfl rfl ((Dq ys).trans (Nat.mul_one _).symm) (hc _ HO.below) h1 h0 (by omega) (by omega) (Nat.le_refl _) ?_; clear HO; (try clear kk); intro g1 c1 W' HO; (try simp only [yT] at HO)));go_ret;simp only [Nat.zero_add, List.nil_append] at HO ⊢;exact ⟨_, _, rfl, HO.base0⟩
theorem JQ (w : World) : Calls Tryz.prog 82 #[] w fun e w' => ∃ g, e = .returned (.pointer (some ⟨g, 0, none⟩)) ∧ Own aK w [aP g #[.slice none 0 0, .int .i64 0] 197] w' := by
 have HO := Own.nil w;go_enter Tryz.func82, Tryz.ntmps82;go_wp2_with (first | ((with_reducible refine aM HO ?_); clear HO; (try clear kk); intro g W' hg HO; rw [← hg.out]; clear hg; (try simp only [yT] at HO); have kk := HO.kk));go_ret;exact ⟨_, rfl, HO.alloc _⟩
theorem Jj (gm k c : Nat) (a : Option Addr) (w : World) (h : w.cell? ⟨gm, 0, none⟩ = some (.slice a k c)) : Calls Tryz.prog 115 #[.pointer (some ⟨gm, 0, none⟩)] w fun e w' => e = .returned (.int .i64 k) ∧ w' = w := by
 have z := block_lt_of_cell h;go_enter Tryz.func115, Tryz.ntmps115;go_wp2_with fail;go_ret;exact ⟨rfl, rfl⟩
theorem je : El 127 24 1 24 := El.of Tryz.underlying127 (z := .slice none 0 0) (by kernel_rfl) rfl (by omega)
theorem bV {P : Program} {ops : Array Oper} {Q : Exit → Act → World → Prop} {S : World → Prop} {md : Region.Mode} {fuel : Nat} {listed : Array Bool} {a : Act} {X : Nat → Prop} {w W : World} {L : List As} {o : Obj} (h : Own X w L W) (k : ∀ W', Own X w (blk W.heap.size o :: L) W' → wpS P md ops Q S fuel listed a W') : wpS P md ops Q S fuel listed a (W.alloc o) := k _ (h.alloc o)
theorem Lc {F : Nat → Nat → Nat → World → Prop} {w : World} {LH : Nat → Nat → Nat → List As} {g : Prop} (h2 : (∀ H a c W, Own aK w (LH H a c) W → F H a c W) → g) (h1 : ∀ H a c W, Own aK w (LH H a c) W → F H a c W) : g := h2 h1
theorem oM (gm b q c k sz : Nat) (v : Value) (xs : List Value) (ys : List Nat) (w0 : World) (L : List As) (w : World) (H : Own aK w0 (aP gm #[v, .int .i64 sz] 197 :: bM 0 24 1 v k xs :: L) w) (hR : ∀ L' W, Own aK w0 (L' ++ L) W → ∀ j u, (wV ys)[j]? = some u → W.cell? ⟨b, q + j, none⟩ = some u) (h0 : 0 < ys.length) (hs : sz + ys.length ≤ 1048576) (hk : k ≤ 1000) :
  Calls Tryz.prog 83 #[.pointer (some ⟨gm, 0, none⟩), .slice (some ⟨b, q, none⟩) ys.length c] w fun e w' => e = .returned (.tuple #[.int .i64 k, .int .i64 0]) ∧ ∃ gr cr g c', Own aK w0 (aP gm #[.slice (some ⟨gr, 0, none⟩) (k + 1) cr, .int .i64 (sz + ys.length : Nat)] 197 :: bM 0 24 1 (.slice (some ⟨gr, 0, none⟩) (k + 1) cr) (k + 1) (xs ++ [.slice (some ⟨g, 0, none⟩) ys.length c']) :: bM 0 22 1 (.slice (some ⟨g, 0, none⟩) ys.length c') ys.length (wV ys) :: L) w' := by
 have HO := H;clear H;have cC : ∀ L' W, Own aK w0 (L' ++ L) W → _ := fun L' W h => uk b q c ys h0 (by omega) W (hR L' W h)
 obtain ⟨n, hn⟩ : ∃ n, Hid (n = ys.length) := ⟨_, hid rfl⟩;have hsz := hid hs;have h0' := hid h0;rw [← hn.out] at cC hs h0 ⊢;have i1 : ¬ ((n : Int) = 0) := by omega
 have i2 : ¬ ((1048576 : Int) - sz < n) := by omega
 have i3 : (sz : Int) ≤ 1048576 := by omega
 have i4 : (sz : Int) + n ≤ 1048576 := by omega
 clear hR hs h0;go_enter Tryz.func83, Tryz.ntmps83;(try simp only [yD] at HO); have kk := HO.kk;go_wp2_with fail;have hcl : ∀ W W2 : World, True → Bl W W2 → True := fun _ _ _ _ => trivial
 have hSw : True := trivial;replace HO := HO.drew;(try clear kk);refine au (S := fun _ => True) (by kernel_rfl) ?_;refine ag hcl 0 ?_;refine ag hcl 1 ?_;refine ag hcl 2 ?_;refine ag hcl 3 ?_;refine ag hcl 5 ?_;refine dC [4, 6] fun W2 hW2 => ?_
 replace HO := HO.then hW2
 clear hW2;apply Lc
 case h2 =>
  intro key;refine BF (fun K hK => ?_) fun K hK => ?_
  ·have k0 := HO.cells 0 rfl
   go_simp;refine bX hK trivial ?_;clear hK K k0;refine dC [6] fun W3 hW3 => ?_
   replace HO := HO.then hW3
   clear hW3;refine dO (fun K hK => ?_);go_simp;go_at_call 114;refine (cC [_, _] _ HO).mono ?_;rintro e W6 ⟨g2, c2, rfl, h2⟩;replace HO := HO.app h2;clear h2;simp only [List.cons_append, List.nil_append] at HO;refine bX hK trivial ?_;clear hK K;refine dC [7] fun W5 hW5 => ?_
   replace HO := HO.then hW5
   clear hW5;refine dO (fun K hK => ?_);go_simp;refine bX hK trivial ?_;clear hK K;refine bV HO ?_;generalize W5.heap.size = H;intro W4 HN2;exact key H g2 c2 W4 HN2
  ·go_simp
   go_at_call 114;refine (cC [_, _] _ HO).mono ?_;rintro e W6 ⟨g2, c2, rfl, h2⟩;replace HO := HO.app h2;clear h2;simp only [List.cons_append, List.nil_append] at HO;refine bX hK trivial ?_;clear hK K;refine dC [4, 7] fun W5 hW5 => ?_
   replace HO := HO.then hW5
   clear hW5;refine BF (fun K hK => ?_) fun K hK => ?_
   ·have k0 := HO.cells 1 rfl
    go_simp;refine bX hK trivial ?_;clear hK K k0;refine dC [7] fun W7 hW7 => ?_
    replace HO := HO.then hW7
    clear hW7;refine dO (fun K hK => ?_);go_simp;refine bX hK trivial ?_;clear hK K;refine bV HO ?_;generalize W7.heap.size = H;intro W4 HN2;exact key H g2 c2 W4 HN2
   ·go_simp
    refine bX hK trivial ?_;clear hK K;refine bV HO ?_;generalize W5.heap.size = H;intro W4 HN2;refine dC [4] fun W7 hW7 => ?_
    replace HN2 := HN2.then hW7
    clear hW7;have k0 := HN2.cells 2 rfl;refine dO (fun K hK => ?_);go_simp;refine bX hK trivial ?_;clear hK K k0;exact key H g2 c2 W7 HN2
 clear HO;intro H g2 c2 W4 HO;refine dC [8] fun W5 hW5 => ?_
 replace HO := HO.then hW5
 clear hW5 W4;refine dO (fun K hK => ?_);refine bY HO je 3 0 rfl rfl rfl _ _ rfl rfl rfl rfl (by simp [Value.oneCell']) (by omega) (by omega) (Nat.zero_le _) ?_;intro gr cr W6 HP;simp only [yT] at HP;refine bX hK trivial ?_;clear hK K HO;refine ag hcl 9 ?_;refine ag hcl 10 ?_;refine dC [11] fun W7 hW7 => ?_
 have HO := HP.then hW7
 clear hW7 HP;have k0 := HO.cells 2 rfl;have m0 := HO.melt 2 rfl;refine dO (fun K hK => ?_);go_simp;have H := HO.set 2 0 (.slice (some ⟨gr, 0, none⟩) (k + 1) cr) rfl;refine bX hK trivial ?_;clear hK K k0 m0 HO;refine kS fun W8 hW8 => ?_
 have HO := H.then hW8
 clear H hW8;(try simp only [yT] at HO);(try simp only [yD] at HO); have kk := HO.kk;go_wp2_with (first | ((with_reducible refine ah HO ?_); clear HO; (try clear kk); intro W' HO kk));replace HO := HO.pull 1 rfl;simp only [yE] at HO;replace HO := HO.pull 3 rfl;simp only [yE] at HO;replace HO := HO.pull 3 rfl;simp only [yE] at HO;go_ret2;exact ⟨rfl, gr, cr, g2, c2, HO.sub (.cons_cons _ (.cons_cons _ (.cons_cons _ (.cons _ (List.Sublist.refl _)))))⟩
theorem EA {P : Program} {ops : Array Oper} {rest : List Oper} {a : Act} {w : World} {Q : Exit → Act → World → Prop} {d : Option Tmp} {xs : Array Operand} {ts : Array TypeId} {ty : TypeId} {ps : String} {af : Array Edge} {gd : Option (Nat × Bool)} (h : wpList P ops Q ({ dst := d, op := .call { callee := .builtin .copy, args := xs, argTypes := ts }, type := ty, pos := ps, after := af, guard := gd } :: rest) a w) : wpList P ops Q ({ dst := d, op := .call { callee := .builtin .copy, args := xs, argTypes := ts }, type := ty, pos := ps, after := af, guard := gd } :: rest) a w := h
theorem Ee {P : Program} {X : Nat → Prop} {w W : World} {L : List As} {ops : Array Oper} {rest : List Oper} {o : Oper} {a : Act} {Q : Exit → Act → World → Prop} {base g m c : Nat} {e : TypeId} {xs : List Value} (h : Own X w L W) (i : Nat) (hi : L[i]? = some (bM base e 1 (.slice (some ⟨g, 0, none⟩) m c) m xs)) (b q dc sc : Nat) (news : List Value) (hl : news.length = m) (hc : ∀ j u, news[j]? = some u → W.cell? ⟨b, q + j, none⟩ = some u) (h1 : ∀ u ∈ news, u.oneCell' = true)
  (hgd : o.guard = none) (d s : Operand) (dT sT elem : TypeId) (ho : o.op = .call { callee := .builtin .copy, args := #[d, s], argTypes := #[dT, sT] }) (hu : P.underlying dT = some (.slice elem)) (hsz : (P.info? elem).map (·.size) = some 1)
  (hd : a.eval d = .slice (some ⟨g, 0, none⟩) m dc) (hs : a.eval s = .slice (some ⟨b, q, none⟩) m sc)
  (k : ∀ W', Own X w (L.set i (bM base e 1 (.slice (some ⟨g, 0, none⟩) m c) m news)) W' → wpList P ops Q rest (a.put o.dst (goInt m)) W') : wpList P ops Q (o :: rest) a W := by
 rcases (h.at i hi : W.ownsRow base e 1 _ m xs).2 with ⟨h', _⟩ | ⟨g', cap', cur, h', hb, hg, hnc, hcm, hcs, htake⟩
 ·simp at h'
 ·simp only [Value.slice.injEq, Option.some.injEq, Addr.mk.injEq, and_true, true_and] at h'
  obtain ⟨rfl, rfl⟩ := h';refine wpList_copy_own hgd d s dT sT ho elem hu hsz g 0 m dc ⟨b, q, none⟩ m sc hd hs cur e hg news (by rw [hl]; exact (Nat.min_self m).symm) (fun j v hv => by rw [bH]; exact hc j v hv) (by omega) h1 ?_;rw [hl];refine k _ (h.grown i hi (v' := .slice (some ⟨g, 0, none⟩) m c) ⟨rfl, rfl, rfl, by simp, fun k' _ hk' => setRow_other W g k' _ (fun e => hk' (by simp [e, Value.ownBlock]))⟩ ⟨by omega, .inr ⟨g, c, _, rfl, hb, setRow_heap W g cur _ e _ hg, hnc, hcm, ?_, ?_⟩⟩ (fun k hk => .inl hk))
  ·simp; omega
  ·simp [hl]
section
variable {gm gr g r k m c cr : Nat} {w0 : World}
structure Room (gm gr g r k m c cr : Nat) (w0 : World) : Prop where
 h0 : w0.cell? ⟨gm, 0, none⟩ = some (.slice (some ⟨gr, 0, none⟩) k cr)
 h1 : w0.cell? ⟨gr, r, none⟩ = some (.slice (some ⟨g, 0, none⟩) m c)
 lt : r < k
 le : m ≤ c
 small : m ≤ 1048576
theorem Room.keep {W : World} (h : Room gm gr g r k m c cr w0) (hb : Bl w0 W) : Room gm gr g r k m c cr W :=
 ⟨ae h.h0 (block_lt_of_cell h.h0) hb, ae h.h1 (block_lt_of_cell h.h1) hb, h.lt, h.le, h.small⟩
theorem CJ (b q n c O : Nat) (ys : List Nat) (hn : ys.length = n) (h0 : 0 < n) (hs : n ≤ 1048576) (w0 : World) (L : List As) (w : World) (H : Own aK w0 (aP O #[.slice none 0 0] 24 :: L) w) (h : ∀ j u, (wV ys)[j]? = some u → w.cell? ⟨b, q + j, none⟩ = some u) :
  Calls Tryz.prog 123 #[.slice (some ⟨b, q, none⟩) n c, .pointer (some ⟨O, 0, none⟩)] w fun e w' => e = .returned (.tuple #[]) ∧ ∃ g' c', Own aK w0 (aP O #[.slice (some ⟨g', 0, none⟩) n c'] 24 :: bM 0 22 1 (.slice (some ⟨g', 0, none⟩) n c') n (wV ys) :: L) w' := by
 subst hn;have HO := H;clear H;have cC := uk b q c ys h0 hs w h;clear h;go_enter Tryz.func123, Tryz.ntmps123;(try simp only [yD] at HO); have kk := HO.kk;go_wp2_with (first | ((with_reducible refine ah HO ?_); clear HO; (try clear kk); intro W' HO kk) | (go_at_call 114; (with_reducible refine cC.mono ?_); rintro e w1 ⟨g2, c2, rfl, h2⟩; replace HO := HO.app h2; clear h2; (try simp only [List.cons_append, List.nil_append] at HO); (try clear kk); (try simp only [yD] at HO); have kk := HO.kk));replace HO := HO.set 1 0 (.slice (some ⟨g2, 0, none⟩) ys.length c2) rfl;simp only [yT] at HO;replace HO := HO.pull 1 rfl;simp only [yE] at HO;exact bodyPost_end (results_none rfl _ _ _) rfl ⟨rfl, g2, c2, HO⟩
theorem qd (hR : Room gm gr g r k m c cr w0) (ys : List Nat) (h0 : 0 < ys.length) (hm : ys.length ≤ m) (h : ∀ j u, (wV ys)[j]? = some u → w0.cell? ⟨g, j, none⟩ = some u) :
  Calls Tryz.prog 86 #[.pointer (some ⟨gm, 0, none⟩), .int .i64 r, .int .i64 0, .int .i64 ys.length] w0 fun e w' => ∃ g' c', e = .returned (.tuple #[.slice (some ⟨g', 0, none⟩) ys.length c', .int .i64 0]) ∧ Own aK w0 [bM 0 22 1 (.slice (some ⟨g', 0, none⟩) ys.length c') ys.length (wV ys)] w' := by
 obtain ⟨n, hn⟩ : ∃ n, ys.length = n := ⟨_, rfl⟩;rw [hn] at h0 hm ⊢;have hsm := hR.small;have hle := hR.le;have cW : ∀ O W, Own aK w0 [aP O #[.slice none 0 0] 24] W → Calls Tryz.prog 122 #[.pointer (some ⟨gm, 0, none⟩), .int .i64 r, .int .i64 0, .int .i64 n, .func (.func 123) #[] #[.pointer (some ⟨O, 0, none⟩)]] W fun e w' => e = .returned (.int .i64 0) ∧ ∃ g' c', Own aK w0 [aP O #[.slice (some ⟨g', 0, none⟩) n c'] 24, bM 0 22 1 (.slice (some ⟨g', 0, none⟩) n c') n (wV ys)] w' := by
  intro O W HO;have hRR := hR.keep HO.below;have e0 := hRR.h0;have e1 := hRR.h1;have z0 := block_lt_of_cell e0;have z1 := block_lt_of_cell e1;have i1 : ¬ ((k : Int) ≤ r) := by have := hR.lt; omega
  have i2 : ¬ ((m : Int) < n) := by omega
  have i3 : (n : Int) ≤ c := by omega
  have i4 : ¬ ((m : Int) < 0) := by omega
  have i5 : ¬ ((r : Int) < 0) := by omega
  have i6 : ¬ ((n : Int) < 0) := by omega
  have i7 : (n : Int) ≤ 1048576 := by omega
  have i8 : (m : Int) ≤ 1048576 := by omega
  have cL : ∀ W, Own aK w0 [aP O #[.slice none 0 0] 24] W → ∀ c', _ := fun W hW c' => CJ g 0 n c' O ys hn h0 (by omega) w0 [] W hW (fun j u hu => by rw [Nat.zero_add]; exact ae (h j u hu) (block_lt_of_cell (h j u hu)) hW.below)
  clear hRR hR h hsm hle hm h0 hn;go_enter Tryz.func122, Tryz.ntmps122;go_wp2_with (go_at_call 123; (with_reducible refine (cL _ HO _).mono ?_); rintro e w1 ⟨rfl, g2, c2, HO⟩);go_ret;exact ⟨rfl, g2, c2, HO⟩
 have HO := Own.nil w0;go_enter Tryz.func86, Tryz.ntmps86;go_wp2_with (first | ((with_reducible refine aM HO ?_); clear HO; (try clear kk); intro g W' hg HO; rw [← hg.out]; clear hg; (try simp only [yT] at HO); have kk := HO.kk) | (go_at_call 122; (with_reducible refine (cW _ _ HO).mono ?_); rintro e w1 ⟨rfl, g2, c2, h2⟩; replace HO := h2; clear h2; (try clear kk); (try simp only [yD] at HO); have kk := HO.kk));go_ret2;exact ⟨g2, c2, rfl, HO.drop 1⟩
theorem Ed (b q sc base : Nat) (xs : List Value) (ys : List Nat) (R : As) (i : Nat) (L : List As) (w : World) (hn : ys.length = m) (h0 : 0 < m) (hRm : ∀ W, Own aK w0 (bM base 22 1 (.slice (some ⟨g, 0, none⟩) m c) m xs :: L) W → Room gm gr g r k m c cr W) (hi : L[i]? = some R) (hR : ∀ W, R.holds W → ∀ j u, (wV ys)[j]? = some u → W.cell? ⟨b, q + j, none⟩ = some u)
  (H : Own aK w0 (bM base 22 1 (.slice (some ⟨g, 0, none⟩) m c) m xs :: L) w) :
  Calls Tryz.prog 163 #[.pointer (some ⟨gm, 0, none⟩), .int .i64 r, .int .i64 0, .slice (some ⟨b, q, none⟩) m sc] w fun e w' => e = .returned (.int .i64 0) ∧ Own aK w0 (bM base 22 1 (.slice (some ⟨g, 0, none⟩) m c) m (wV ys) :: L) w' := by
 have h1 : ∀ u ∈ wV ys, u.oneCell' = true := fun u hu => by
  obtain ⟨a, -, rfl⟩ := List.mem_map.1 hu;simp [Value.oneCell']
 have cW : ∀ O W, Own aK w0 (aP O #[.slice (some ⟨b, q, none⟩) m sc] 24 :: bM base 22 1 (.slice (some ⟨g, 0, none⟩) m c) m xs :: L) W → Calls Tryz.prog 122 #[.pointer (some ⟨gm, 0, none⟩), .int .i64 r, .int .i64 0, .int .i64 m, .func (.func 204) #[] #[.pointer (some ⟨O, 0, none⟩)]] W fun e w' => e = .returned (.int .i64 0) ∧ Own aK w0 (aP O #[.slice (some ⟨b, q, none⟩) m sc] 24 :: bM base 22 1 (.slice (some ⟨g, 0, none⟩) m c) m (wV ys) :: L) w' := by
  intro O W HO;have hRR := hRm W (HO.drop 1);have e0 := hRR.h0;have e1 := hRR.h1;have z0 := block_lt_of_cell e0;have z1 := block_lt_of_cell e1;have i1 : ¬ ((k : Int) ≤ r) := by have := hRR.lt; omega
  have i3 : (m : Int) ≤ c := by have := hRR.le; omega
  have i4 : ¬ ((m : Int) < 0) := by omega
  have i5 : ¬ ((r : Int) < 0) := by omega
  have i8 : (m : Int) ≤ 1048576 := by have := hRR.small; omega
  have cL : ∀ W, Own aK w0 (aP O #[.slice (some ⟨b, q, none⟩) m sc] 24 :: bM base 22 1 (.slice (some ⟨g, 0, none⟩) m c) m xs :: L) W → ∀ c', Calls Tryz.prog 204 #[.slice (some ⟨g, 0, none⟩) m c', .pointer (some ⟨O, 0, none⟩)] W fun e w' => e = .returned (.tuple #[]) ∧ Own aK w0 (aP O #[.slice (some ⟨b, q, none⟩) m sc] 24 :: bM base 22 1 (.slice (some ⟨g, 0, none⟩) m c) m (wV ys) :: L) w' := fun W HO c' => by
   have hc := hR W (HO.at (i + 2) hi);have HO2 := hid hc;clear hc hRR e0 e1 z0 z1 hRm i1 i3 i4 i5 i8;go_enter Tryz.func204, Tryz.ntmps204;(try simp only [yD] at HO); have kk := HO.kk;go_wp2_with ((with_reducible refine EA ?_); go_loud (refine Ee HO 1 rfl b q _ _ (wV ys) ((Dq ys).trans hn) HO2.out h1 rfl _ _ _ _ 22 rfl Tryz.underlying24 (by kernel_rfl) rfl rfl ?_); clear HO; (try clear kk); intro W' HO);exact bodyPost_end (results_none rfl _ _ _) rfl ⟨rfl, HO⟩
  clear hRR hRm hR h1 h0 hn;go_enter Tryz.func122, Tryz.ntmps122;go_wp2_with (go_at_call 204; (with_reducible refine (cL _ HO _).mono ?_); rintro e w1 ⟨rfl, HO⟩);go_ret;exact ⟨rfl, HO⟩
 have HO := H;clear H hRm hR h1 h0 hn;go_enter Tryz.func163, Tryz.ntmps163;go_wp2_with (first | ((with_reducible refine aM HO ?_); clear HO; (try clear kk); intro g W' hg HO; rw [← hg.out]; clear hg; (try simp only [yT] at HO); have kk := HO.kk) | (go_at_call 122; (with_reducible refine (cW _ _ HO).mono ?_); rintro e w1 ⟨rfl, h2⟩; replace HO := h2; clear h2; (try clear kk); (try simp only [yD] at HO); have kk := HO.kk));go_ret;exact ⟨rfl, HO.drop 1⟩
end
structure Nz (gM gC gm gfr cf gi ci n at_ gv : Nat) (W : World) : Prop where
 m0 : W.cell? ⟨gM, 0, none⟩ = some (.pointer (some ⟨gC, 0, none⟩))
 m1 : W.cell? ⟨gM, 1, none⟩ = some (.pointer (some ⟨gm, 0, none⟩))
 m2 : W.cell? ⟨gM, 2, none⟩ = some (.slice (some ⟨gfr, 0, none⟩) 1 cf)
 c0 : W.cell? ⟨gC, 0, none⟩ = some (.slice (some ⟨gi, 0, none⟩) n ci)
 f2 : W.cell? ⟨gfr, 2, none⟩ = some (.int .i64 at_)
 f3 : W.cell? ⟨gfr, 3, none⟩ = some (.map (some gv))
section
variable {gM gC gm gfr cf gi ci n at_ gv : Nat} {w W : World}
theorem Nz.below (h : Nz gM gC gm gfr cf gi ci n at_ gv w) (hb : Bl w W) : Nz gM gC gm gfr cf gi ci n at_ gv W :=
 ⟨ae h.m0 (block_lt_of_cell h.m0) hb, ae h.m1 (block_lt_of_cell h.m1) hb, ae h.m2 (block_lt_of_cell h.m2) hb, ae h.c0 (block_lt_of_cell h.c0) hb, ae h.f2 (block_lt_of_cell h.f2) hb, ae h.f3 (block_lt_of_cell h.f3) hb⟩
theorem iD (h : w.cell? ⟨gM, 2, none⟩ = some (.slice (some ⟨gfr, 0, none⟩) 1 cf)) : Qc 116 #[.pointer (some ⟨gM, 0, none⟩)] w (.pointer (some ⟨gfr, 0, none⟩)) := by
 have HO := Own.nil w;have z := block_lt_of_cell h;go_enter Tryz.func116, Tryz.ntmps116;go_wp2_with fail;go_region;go_wp2_with fail;go_ret;exact ⟨rfl, HO.drew.below⟩
theorem qH (h : Nz gM gC gm gfr cf gi ci n at_ gv w) (op : Nat) (hat : at_ < n) (ho : w.cell? ⟨gi, at_ * 4, none⟩ = some (.int .u16 op)) (h6 : op ≠ 246) (h7 : op ≠ 247) : Qc 161 #[.pointer (some ⟨gM, 0, none⟩)] w (.tuple #[]) := by
 have HO := Own.nil w;have cT : ∀ W, Bl w W → _ := fun W hb => iD (h.below hb).m2
 have hq : ∀ W, Bl w W → Nz gM gC gm gfr cf gi ci n at_ gv W ∧ W.cell? ⟨gi, at_ * 4, none⟩ = some (.int .u16 op) := fun W hb => ⟨h.below hb, ae ho (block_lt_of_cell ho) hb⟩
 have HQ := hid hq;have i1 : ((op : Int) == 246) = false := by rw [beq_eq_false_iff_ne]; omega
 have i2 : ((op : Int) == 247) = false := by rw [beq_eq_false_iff_ne]; omega
 have i3 : (at_ : Int) < n := by omega
 clear h hat ho h6 h7 hq;go_enter Tryz.func161, Tryz.ntmps161;go_wp2_with (go_at_call 116; with_reducible refine fF HO (cT _ HO.below) ?_; clear HO; intro w1 HO);obtain ⟨⟨e0, e1, e2, e3, e4, e5⟩, e6⟩ := HQ.out _ HO.below;have z0 := block_lt_of_cell e0;have z3 := block_lt_of_cell e3;have z4 := block_lt_of_cell e4;have z6 := block_lt_of_cell e6;refine wp_loop_rounds 1 ?_;rw [rounds_succ];go_wp2_with fail;go_region;go_wp2_with fail;exact bodyPost_end (results_none rfl _ _ _) rfl ⟨rfl, HO.drew.below⟩
theorem Ff (o x : Nat) (a0 a1 a2 a3 : Value) (w0 : World) (L : List As) (w : World) (H : Own aK w0 (aP gM #[a0, a1, a2, a3, .int .u8 x] 144 :: L) w) : Calls Tryz.prog 119 #[.pointer (some ⟨gM, 0, none⟩), .int .u8 o] w fun e w' => e = .returned (.tuple #[]) ∧ Own aK w0 (aP gM #[a0, a1, .slice none 0 0, a3, .int .u8 o] 144 :: L) w' := by
 have HO := H;clear H;go_enter Tryz.func119, Tryz.ntmps119;(try simp only [yD] at HO); have kk := HO.kk;go_wp2_with (first | ((with_reducible refine ah HO ?_); clear HO; (try clear kk); intro W' HO kk));exact bodyPost_end (results_none rfl _ _ _) rfl ⟨rfl, HO.set 0 2 (.slice none 0 0) rfl⟩
theorem Cj (k : Nat) (h : w.cell? ⟨gM, 3, none⟩ = some (.int .i64 k)) : Calls Tryz.prog 31 #[.pointer (some ⟨gM, 0, none⟩)] w fun e w' => e = .returned (.int .i64 k) ∧ w' = w := by
 have z := block_lt_of_cell h;go_enter Tryz.func31, Tryz.ntmps31;go_wp2_with fail;go_ret;exact ⟨rfl, rfl⟩
end
def uJ (k : Int) : Value := .int .u16 k
theorem BB : Keys (.int .u16) uJ := ⟨fun k => rfl, fun k k' h => by unfold uJ at h; injection h⟩
def zR (v : Value) : Value := v
theorem wm {P : Program} {ops : Array Oper} {rest : List Oper} {a : Act} {w : World} {Q : Exit → Act → World → Prop} {d : Option Tmp} {mt : TypeId} {m k v : Operand} {ty : TypeId} {ps : String} {af : Array Edge} {gd : Option (Nat × Bool)} (h : wpList P ops Q ({ dst := d, op := .insert mt m k v, type := ty, pos := ps, after := af, guard := gd } :: rest) a w) : wpList P ops Q ({ dst := d, op := .insert mt m k v, type := ty, pos := ps, after := af, guard := gd } :: rest) a w := h
theorem ve {X : Nat → Prop} {w W : World} {L : List As} {ops : Array Oper} {rest : List Oper} {o : Oper} {a : Act} {Q : Exit → Act → World → Prop} {g : Nat} {f : Int → Option Value} (h : Own X w L W) (i : Nat) (hi : L[i]? = some (iO (.int .u16) uJ zR g f)) (hgd : o.guard = none) (mt kt et : TypeId) (hmt : Tryz.prog.underlying mt = some (.map kt et)) (hkt : Tryz.prog.underlying kt = some (.int .u16)) (m kk vv : Operand) (ho : o.op = .insert mt m kk vv) (k : Int) (v : Value) (hm : a.eval m = .map (some g)) (hk : a.eval kk = .int .u16 k) (hv : a.eval vv = v) (hd : o.dst = none)
  (K : ∀ W', Own X w (L.set i (iO (.int .u16) uJ zR g (dJ f k v))) W' → wpList Tryz.prog ops Q rest a W') : wpList Tryz.prog ops Q (o :: rest) a W := by
 obtain ⟨q, hup, hm2⟩ := Mp.put (h.at i hi) BB hmt hkt k v v (fun _ _ _ h => h) (fun _ => rfl);have hup2 : (Instr.mapUpdate mt (.map (some g)) (.int .u16 k) v).run Tryz.prog W = .ok () (aT W g q) := hup;have H2 := h.map i q hi hm2;refine wpList_plain hgd fun K2 hK => ?_
 unfold Oper.wp;simp [execOp, ho, hm, hk, hv, hup2, Result.andThen];exact hK _ _ (by rw [hd]; exact K _ H2)
def mF (M n : Nat) : Value := .func (.func n) #[.pointer (some ⟨M, 0, none⟩)] #[]
def Iz (M : Nat) : Int → Option Value := dJ (dJ (dJ (dJ (dJ (dJ (dJ (fun _ => none) 61 (mF M 246)) 77 (mF M 247)) 78 (mF M 248)) 79 (mF M 249)) 80 (mF M 250)) 81 (mF M 251)) 82 (mF M 252)
theorem qw (M : Nat) (w : World) : Calls Tryz.prog 206 #[.pointer (some ⟨M, 0, none⟩)] w fun e w' => (∃ m, e = .returned (.map (some m)) ∧ Mp (.int .u16) uJ (fun _ v x => v = zR x) w' m (Iz M)) ∧ Bl w w' := by
 have HO := Own.nil w;have hmm := @run_makeMap Tryz.prog;go_enter Tryz.func206, Tryz.ntmps206;go_wp2_with (first | (((with_reducible refine aM HO ?_); clear HO; (try clear kk); intro g W' hg HO; rw [← hg.out]; clear hg; (try simp only [yT] at HO); have kk := HO.kk); (try replace HO := HO.recast 0 (A' := iO (.int .u16) uJ zR _ (fun _ => none)) rfl (fun k hk => hk) (fQ (HO.blk 0 rfl)))) | ((with_reducible refine wm ?_); (refine ve HO 0 rfl rfl _ _ _ Tryz.underlying303 Tryz.underlying26 _ _ _ rfl _ _ rfl rfl rfl rfl ?_); clear HO; (try clear kk); intro W' HO; simp only [List.set_cons_zero] at HO));go_ret;exact ⟨⟨_, rfl, HO.at 0 rfl⟩, HO.below⟩
def cF (B n : Nat) : Value := .func (.func n) #[] #[.pointer (some ⟨B, 0, none⟩)]
def ig (M B : Nat) : Int → Option Value := dJ (dJ (dJ (dJ (dJ (dJ (dJ (dJ (fun _ => none) 57 (mF M 198)) 249 (cF B 199)) 250 (mF M 201)) 251 (mF M 202)) 252 (cF B 197)) 253 (mF M 203)) 254 (mF M 203)) 255 (cF B 197)
theorem jW (M : Nat) (w : World) : Calls Tryz.prog 162 #[.pointer (some ⟨M, 0, none⟩)] w fun e w' => (∃ m B, e = .returned (.map (some m)) ∧ Mp (.int .u16) uJ (fun _ v x => v = zR x) w' m (ig M B)) ∧ Bl w w' := by
 have HO := Own.nil w;have hmm := @run_makeMap Tryz.prog;go_enter Tryz.func162, Tryz.ntmps162;go_wp2_with (first | (((with_reducible refine aM HO ?_); clear HO; (try clear kk); intro g W' hg HO; rw [← hg.out]; clear hg; (try simp only [yT] at HO); have kk := HO.kk); (try (replace HO := HO.recast 0 (A' := iO (.int .u16) uJ zR _ (fun _ => none)) rfl (fun k hk => hk) (fQ (HO.blk 0 rfl)); (try clear kk); (try simp only [yD] at HO); have kk := HO.kk))) | ((with_reducible refine wm ?_); (refine ve HO 0 rfl rfl _ _ _ Tryz.underlying263 Tryz.underlying26 _ _ _ rfl _ _ rfl rfl rfl rfl ?_); clear HO; (try clear kk); intro W' HO; simp only [List.set_cons_zero] at HO; (try simp only [yD] at HO); have kk := HO.kk));go_ret;exact ⟨⟨_, _, rfl, HO.at 0 rfl⟩, HO.below⟩
theorem Own.zeros {X : Nat → Prop} {w W : World} {L : List As} {g n : Nat} (h : Own X w (aP g (wz n) 22 :: L) W) (hn : n ≤ 1048576) : Own X w (bM 0 22 1 (.slice (some ⟨g, 0, none⟩) n n) n (wz n).toList :: L) W :=
 h.recast 0 (A' := bM 0 22 1 (.slice (some ⟨g, 0, none⟩) n n) n (wz n).toList) rfl (fun k hk => (Option.some.inj hk).symm) ⟨by rw [Array.length_toList, iZ]; omega, .inr ⟨g, n, wz n, rfl, Nat.zero_le _, h.blk 0 rfl, Nat.le_refl _, by unfold maxLen; omega, by rw [iZ]; omega, by rw [List.take_of_length_le]; rw [Array.length_toList, iZ]; omega⟩⟩
theorem yZ (b c : Nat) (ys : List Nat) (h0 : 0 < ys.length) (hn : ys.length ≤ 1048576) (w : World) (h : ∀ j u, (wV ys)[j]? = some u → w.cell? ⟨b, j, none⟩ = some u) :
  Calls Tryz.prog 113 #[.slice (some ⟨b, 0, none⟩) ys.length c] w fun e w' => ∃ g, e = .returned (.slice (some ⟨g, 0, none⟩) ys.length ys.length) ∧ Own aK w [bM 0 22 1 (.slice (some ⟨g, 0, none⟩) ys.length ys.length) ys.length (wV ys)] w' := by
 have HO := Own.nil w;have hc : ∀ W, Bl w W → ∀ j u, (wV ys)[j]? = some u → W.cell? ⟨b, 0 + j, none⟩ = some u := fun W hb j u hu => by rw [Nat.zero_add]; exact ae (h j u hu) (block_lt_of_cell (h j u hu)) hb
 have h1 : ∀ u ∈ wV ys, u.oneCell' = true := fun u hu => by
  obtain ⟨a, -, rfl⟩ := List.mem_map.1 hu;simp [Value.oneCell']
 have hl := Dq ys;obtain ⟨n, hnn⟩ : ∃ n, Hid (n = ys.length) := ⟨_, hid rfl⟩;rw [← hnn.out] at h0 hn hl ⊢;have hm := jF n (by omega);clear h;go_enter Tryz.func113, Tryz.ntmps113;go_wp2_with (first | (((with_reducible refine aB HO ?_); intro g hg; rw [← hg.out]; clear hg); clear HO; (try clear kk); intro W' HO kk) | ((with_reducible refine EA ?_); replace HO := HO.zeros hn; (refine Ee HO 0 rfl b 0 _ _ (wV ys) hl (hc _ HO.below) h1 rfl _ _ _ _ 22 rfl Tryz.underlying24 (by kernel_rfl) rfl rfl ?_); clear HO; (try clear kk); intro W' HO));go_ret;exact ⟨_, rfl, HO⟩
section
variable {lo P T : Nat} {tab : Nat → Option dU} {vs : Nat → Option (Nat × Nat × Nat)} {cs : Nat → Option (Nat × Nat)} {ids : List Nat} {w : World}
theorem jk.below {W : World} (h : jk lo P T tab vs cs ids w) (hb : Bl w W) : jk lo P T tab vs cs ids W := jo.below (jk.keeps P T tab vs cs ids) h hb
theorem GL (h : jk lo P T tab vs cs ids w) (h0 : 0 < ids.length) (hn : ids.length ≤ 1048576) : Calls Tryz.prog 77 #[.pointer (some ⟨P, 0, none⟩)] w fun e w' => ∃ g, e = .returned (.slice (some ⟨g, 0, none⟩) ids.length ids.length) ∧ Own aK w [bM 0 22 1 (.slice (some ⟨g, 0, none⟩) ids.length ids.length) ids.length (wV ids)] w' := by
 have HO := Own.nil w;obtain ⟨mc, fc, Dc, v, -, -, -, -, h5, -, -, -, h9⟩ := h.at_;obtain ⟨g, c, rfl, -⟩ := World.ownsRow.form h9 h0;have hx : ∀ j u, (wV ids)[j]? = some u → w.cell? ⟨g, j, none⟩ = some u := fun j u hu => by
  have := World.ownsRow.cells h9 rfl j u hu
  rwa [bH, Nat.zero_add] at this
 have cC := yZ g c ids h0 hn w hx;have z := block_lt_of_cell h5;clear h hx h9;generalize ids.length = n at cC h5 ⊢;go_enter Tryz.func77, Tryz.ntmps77;go_wp2_with (go_at_call 113; (with_reducible refine cC.mono ?_); rintro e w1 ⟨g2, rfl, h2⟩);go_ret;exact ⟨_, rfl, h2⟩
theorem Bj (w : World) : Calls Tryz.prog 113 #[.slice none 0 0] w fun e w' => (∃ g, e = .returned (.slice (some ⟨g, 0, none⟩) 0 0)) ∧ Bl w w' := by
 have HO := Own.nil w;have hm : ∀ W : World, (Instr.makeSlice 24 (.int .i64 0) (.int .i64 0)).run Tryz.prog W = .ok (.slice (some ⟨W.heap.size, 0, none⟩) 0 0) (W.alloc (.cells (wz 0) 22)) := jF 0 (by omega);go_enter Tryz.func113, Tryz.ntmps113;go_wp2_with (first | (((with_reducible refine aB HO ?_); intro g hg; rw [← hg.out]; clear hg); clear HO; (try clear kk); intro W' HO kk));have hr : (Builtin.copy_ #[24, 24] 3 #[.slice (some ⟨g, 0, none⟩) 0 0, .slice none 0 0]).run Tryz.prog W' = .ok (.int .i64 0) W' := by kernel_rfl
 rw [hr];go_wp2_with fail;go_ret;exact ⟨⟨_, rfl⟩, HO.below⟩
theorem Og (w : World) : (zeroValue 192).run Tryz.prog w = .ok (.agg #[.int .u32 0, .slice none 0 0]) w := by kernel_rfl
theorem ql (h : jk lo P T tab vs cs ids w) (id : Nat) (hf : cs id = none) : Calls Tryz.prog 118 #[.pointer (some ⟨P, 0, none⟩), .int .u32 id] w fun e w' => (∃ g, e = .returned (.tuple #[.int .u32 0, .slice (some ⟨g, 0, none⟩) 0 0, .bool false])) ∧ Bl w w' := by
 have HO := Own.nil w;obtain ⟨mc, fc, Dc, v, -, -, -, hP, -, h6, h7, -, -⟩ := h.at_;have hn : fc id = none := by
  have := h7 id;rw [hf] at this
  cases hx : fc id with
  | none => rfl
  | some x => rw [hx] at this; cases this
 have hl := h6.miss dK Tryz.underlying158 Tryz.underlying22 hn (Og w) true;have zP := block_lt_of_cell hP;have hl : (Instr.lookup 158 (.map (some mc)) (.int .u32 id) true).run Tryz.prog w = .ok (.tuple #[.agg #[.int .u32 0, .slice none 0 0], .bool false]) w := hl;clear h hf h6 h7 hn;go_enter Tryz.func118, Tryz.ntmps118;go_wp2_with (first | ((first | ((with_reducible refine aB HO ?_); intro g hg; rw [← hg.out]; clear hg) | (with_reducible refine ah HO ?_) | (refine ay 192 HO ?_)); clear HO; (try clear kk); intro W' HO kk));obtain ⟨gV, rfl⟩ : ∃ q, q = g := ⟨_, rfl⟩
 try simp only [Act.put]
 (try have z0 := HO.lt 0 rfl); (try have z1 := HO.lt 1 rfl); (try have z2 := HO.lt 2 rfl); (try have z3 := HO.lt 3 rfl); (try have z4 := HO.lt 4 rfl); (try have z5 := HO.lt 5 rfl); skip;have B0 := Below.refl W'.heap.size W';have bl := HO.below;have cC1 := Bj;(try replace kk := kk.2);go_cut [4, 5, 6] (fun s4 s5 s6 wx => s4 = .int .u32 0 ∧ s6 = .bool false ∧ ∃ g', s5 = .slice (some ⟨g', 0, none⟩) 0 0 ∧ Bl w wx)
 case first =>
  go_region_held3 (fun W => (∀ b j, b < W'.heap.size → W.cell? ⟨b, j, none⟩ = W'.cell? ⟨b, j, none⟩) ∧ Bl W' W) ((refine mkS W' _ ?_; repeat (first | exact B0 | refine aQ ?_ | refine bP ?_ _ | refine az ?_ hn1.out | refine aG ?_ (by first | assumption | omega) _ | refine aR ?_ (by first | assumption | omega))))
   (first | (go_at_call 113; (with_reducible refine (cC1 _).mono ?_); rintro e w2 ⟨⟨gC, rfl⟩, hn0⟩; have hn1 := hid hn0; clear hn0))
  all_goals
   go_wp2_with fail;rename_i hh;go_meet;exact ⟨rfl, rfl, _, rfl, bl.trans (hh.2.mono bl.size)⟩
 case rest =>
 obtain ⟨rfl, rfl, g', rfl, h2⟩ := hcut;go_wp2_with fail;go_ret3;exact ⟨⟨g', rfl⟩, h2⟩
theorem yK (h : jk lo P T tab vs cs ids w) (id ty n : Nat) (hf : cs id = some (ty, n)) (hn : n ≤ 4096) : Calls Tryz.prog 118 #[.pointer (some ⟨P, 0, none⟩), .int .u32 id] w fun e w' => (∃ g, e = .returned (.tuple #[.int .u32 ty, .slice (some ⟨g, 0, none⟩) n n, .bool true]) ∧ bW g n w.heap.size w') ∧ Bl w w' := by
 have HO := Own.nil w;obtain ⟨mc, fc, Dc, v, -, -, hD, hP, -, h6, h7, h8, -⟩ := h.at_;obtain ⟨x, hx, e1, e2⟩ : ∃ x, fc id = some x ∧ x.ty = ty ∧ x.n = n := by
  have := h7 id;rw [hf] at this
  cases hx : fc id with
  | none => rw [hx] at this; cases this
  | some x => rw [hx] at this; injection this with this; injection this with e1 e2; exact ⟨x, rfl, e1, e2⟩
 obtain ⟨d1, d2⟩ := h8 id x hx;obtain ⟨v', hv, hq⟩ := h6.hit dK Tryz.underlying158 Tryz.underlying22 hx;have hl := hq true;subst hv e1 e2;have hl : (Instr.lookup 158 (.map (some mc)) (.int .u32 id) true).run Tryz.prog w = .ok (.tuple #[.agg #[.int .u32 x.ty, .slice (some ⟨x.at_, 0, none⟩) x.n x.n], .bool true]) w := hl;have zP := block_lt_of_cell hP;have hz := (hD _ d1).2;have cC : ∀ W, Bl w W → Calls Tryz.prog 113 #[.slice (some ⟨x.at_, 0, none⟩) x.n x.n] W fun e w' => (∃ g', e = .returned (.slice (some ⟨g', 0, none⟩) x.n x.n) ∧ bW g' x.n W.heap.size w') ∧ Bl W w' := fun W hb => tX x.at_ x.n W ⟨Nat.zero_le _, fun j => (World.cell?_of_block (a := ⟨x.at_, j, none⟩) (hb.block _ hz)).trans (d2 j)⟩ hn
 clear h hf h6 h7 hD hq d1 d2 hx h8;obtain ⟨ty, xa, n⟩ := x;simp only at hl cC hz ⊢;go_enter Tryz.func118, Tryz.ntmps118;go_wp2_with (first | ((first | ((with_reducible refine aB HO ?_); intro g hg; rw [← hg.out]; clear hg) | (with_reducible refine ah HO ?_) | (refine ay 192 HO ?_)); clear HO; (try clear kk); intro W' HO kk));obtain ⟨gV, rfl⟩ : ∃ q, q = g := ⟨_, rfl⟩
 try simp only [Act.put]
 (try have z0 := HO.lt 0 rfl); (try have z1 := HO.lt 1 rfl); (try have z2 := HO.lt 2 rfl); (try have z3 := HO.lt 3 rfl); (try have z4 := HO.lt 4 rfl); (try have z5 := HO.lt 5 rfl); skip;have B0 := Below.refl W'.heap.size W';have bl := HO.below;have cC1 : ∀ W, Bl W' W → _ := fun W hb => cC W (bl.trans (hb.mono bl.size))
 clear cC;(try replace kk := kk.2);go_cut [4, 5, 6] (fun s4 s5 s6 wx => s4 = .int .u32 ty ∧ s6 = .bool true ∧ ∃ g', s5 = .slice (some ⟨g', 0, none⟩) n n ∧ bW g' n w.heap.size wx ∧ Bl w wx)
 case first =>
  go_region_held3 (fun W => (∀ b j, b < W'.heap.size → W.cell? ⟨b, j, none⟩ = W'.cell? ⟨b, j, none⟩) ∧ Bl W' W) ((refine mkS W' _ ?_; repeat (first | exact B0 | refine aQ ?_ | refine bP ?_ _ | refine az ?_ hn1.out | refine aG ?_ (by first | assumption | omega) _ | refine aR ?_ (by first | assumption | omega))))
   (first | (go_at_call 113; (with_reducible refine (cC1 _ (by repeat (first | exact B0 | refine aQ ?_ | refine bP ?_ _ | refine az ?_ hn1.out | refine aG ?_ (by first | assumption | omega) _ | refine aR ?_ (by first | assumption | omega)))).mono ?_); rintro e w2 ⟨⟨gC, rfl, hq⟩, hn0⟩; have hn1 := hid hn0; clear hn0))
  all_goals
   go_wp2_with fail;rename_i hh;go_meet;refine ⟨rfl, rfl, _, rfl, ⟨?_, hq.2⟩, bl.trans (hh.2.mono bl.size)⟩;have h1 := hq.1;have h2 := bl.size;simp only [aN] at h1;omega
 case rest =>
 obtain ⟨rfl, rfl, g', rfl, h1, h2⟩ := hcut;go_wp2_with fail;go_ret3;exact ⟨⟨g', rfl, h1⟩, h2⟩
end
end Go.Proofs.YtlkolghiknbbfaaGreatDoor
