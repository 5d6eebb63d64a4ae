/- The kit: arguments, add, Behind. -/
import Derived.Test.YtlkolghiknbbfaaGreatDoorAo
set_option linter.unusedVariables false
set_option linter.unusedSimpArgs false
set_option maxRecDepth 100000
set_option maxHeartbeats 4000000
namespace Go.Proofs.YtlkolghiknbbfaaGreatDoor
open Go.RowKit
theorem rq : (Tryz.prog.info? 64).map (·.size) = some 3 := by kernel_rfl
theorem dw (n : Int) (w : World) : Qc 15 #[.int .u32 n] w (.agg #[.int .u8 4, .int .u32 n, .string ⟨#[]⟩]) := by
 have HO := Own.nil w;go_enter Tryz.func15, Tryz.ntmps15;go_wp2_with (first | ((first | ((with_reducible refine aB HO ?_); intro g hg; rw [← hg.out]; clear hg) | (with_reducible refine ah HO ?_) | (refine ay 64 HO ?_)); clear HO; (try clear kk); intro W' HO kk));refine bodyPost_ret_by (bF rfl _ _ _ 64 #[.int .u8 4, .int .u32 n, .string ⟨#[]⟩] _ _ rfl (HO.blk 0 rfl) Tryz.underlying64 rfl rq) rfl ?_;exact ⟨rfl, HO.below⟩
theorem bZ (n : Int) (w : World) : Qc 16 #[.int .u32 n] w (.agg #[.int .u8 1, .int .u32 n, .string ⟨#[]⟩]) := by
 have HO := Own.nil w;go_enter Tryz.func16, Tryz.ntmps16;go_wp2_with (first | ((first | ((with_reducible refine aB HO ?_); intro g hg; rw [← hg.out]; clear hg) | (with_reducible refine ah HO ?_) | (refine ay 64 HO ?_)); clear HO; (try clear kk); intro W' HO kk));refine bodyPost_ret_by (bF rfl _ _ _ 64 #[.int .u8 1, .int .u32 n, .string ⟨#[]⟩] _ _ rfl (HO.blk 0 rfl) Tryz.underlying64 rfl rq) rfl ?_;exact ⟨rfl, HO.below⟩
theorem dP (n : Int) (w : World) : Qc 18 #[.int .u32 n] w (.agg #[.int .u8 2, .int .u32 n, .string ⟨#[]⟩]) := by
 have HO := Own.nil w;go_enter Tryz.func18, Tryz.ntmps18;go_wp2_with (first | ((first | ((with_reducible refine aB HO ?_); intro g hg; rw [← hg.out]; clear hg) | (with_reducible refine ah HO ?_) | (refine ay 64 HO ?_)); clear HO; (try clear kk); intro W' HO kk));refine bodyPost_ret_by (bF rfl _ _ _ 64 #[.int .u8 2, .int .u32 n, .string ⟨#[]⟩] _ _ rfl (HO.blk 0 rfl) Tryz.underlying64 rfl rq) rfl ?_;exact ⟨rfl, HO.below⟩
theorem GM (s : ByteArray) (w : World) : Qc 17 #[.string s] w (.agg #[.int .u8 3, .int .u32 0, .string s]) := by
 have HO := Own.nil w;go_enter Tryz.func17, Tryz.ntmps17;go_wp2_with (first | ((first | ((with_reducible refine aB HO ?_); intro g hg; rw [← hg.out]; clear hg) | (with_reducible refine ah HO ?_) | (refine ay 64 HO ?_)); clear HO; (try clear kk); intro W' HO kk));refine bodyPost_ret_by (bF rfl _ _ _ 64 #[.int .u8 3, .int .u32 0, .string s] _ _ rfl (HO.blk 0 rfl) Tryz.underlying64 rfl rq) rfl ?_;exact ⟨rfl, HO.below⟩
theorem Ey : El 32 73 4 40 := El.of Tryz.underlying32 (z := .agg #[.int .u16 0, .int .u32 0, .int .u32 0, .slice none 0 0]) (by kernel_rfl) rfl (by omega)
theorem bn (w0 : World) (v : Value) (n : Nat) (xs : List Value) (L : List As) (op ty id : Nat) (aa : Option Addr) (an ac : Nat) (w : World) (H : Own aK w0 (bM w0.heap.size 73 4 v n xs :: L) w) (hn : n ≤ 100000) :
  Calls Tryz.prog 14 #[v, .int .u16 op, .int .u32 ty, .int .u32 id, .slice aa an ac] w fun e w' => ∃ g c, e = .returned (.slice (some ⟨g, 0, none⟩) (n + 1) c) ∧ Own aK w0 (bM w0.heap.size 73 4 (.slice (some ⟨g, 0, none⟩) (n + 1) c) (n + 1) (xs ++ [.int .u16 op, .int .u32 ty, .int .u32 id, .slice aa an ac]) :: L) w' := by
 have HO := H;clear H;go_enter Tryz.func14, Tryz.ntmps14;go_wp2_with (first | ((first | (with_reducible refine bf HO ?_; intro g hg; rw [← hg.out]; clear hg) | (with_reducible refine ah HO ?_)); clear HO; (try clear kk); intro W' HO kk) | ((with_reducible refine aA ?_); refine bg HO Ey 1 0 rfl rfl rfl _ _ rfl rfl rfl rfl (by simp [Value.oneCell']) (by omega) (by omega) (Nat.le_refl _) ?_; intro gm cm W' HO'; clear HO; (try clear kk); have HO := HO'; clear HO'; (try simp only [yD] at HO); have kk := HO.kk));go_ret;exact ⟨_, _, rfl, HO.drop 1⟩
def bh (k : Int) (n : Nat) : Nat := if k < 0 ∨ (n : Int) ≤ k then n - 1 else n - 1 - k.toNat
theorem jQ (k : Int) (n : Nat) (w : World) (hk : -9223372036854775808 ≤ k ∧ k < 9223372036854775808) (hn : 1 ≤ n ∧ n < 4294967296) :
  Calls Tryz.prog 6 #[.int .i64 k, .int .u32 n] w fun e w' => e = .returned (.int .u32 (bh k n)) ∧ w' = w := by
 unfold bh;by_cases h1 : k < 0
 ·rw [if_pos (.inl h1)]
  go_enter Tryz.func6, Tryz.ntmps6;go_wp2_with fail;go_ret;exact ⟨by go_num, rfl⟩
 ·by_cases h2 : (n : Int) ≤ k
  ·rw [if_pos (.inr h2)]
   go_enter Tryz.func6, Tryz.ntmps6;go_wp2_with fail;go_ret;exact ⟨by go_num, rfl⟩
  ·rw [if_neg (by omega)]
   go_enter Tryz.func6, Tryz.ntmps6;go_wp2_with fail;go_ret;exact ⟨by go_num, rfl⟩
end Go.Proofs.YtlkolghiknbbfaaGreatDoor
namespace Go.Proofs.YtlkolghiknbbfaaGreatDoor
open Go.RowKit
structure pY (a b : Ag) : Prop where
 kind : a.kind = b.kind
 s : a.s = b.s
 n : a.kind ≠ 1 → a.n = b.n
structure jH (i j : In) : Prop where
 op : i.op = j.op
 ty : i.ty = 0 ↔ j.ty = 0
 res : i.res = 0 ↔ j.res = 0
 len : i.args.length = j.args.length
 args : ∀ k (h : k < i.args.length) (h' : k < j.args.length), pY i.args[k] j.args[k]
structure jG (i : In) (b : Nat) : Prop where
 ty : i.ty = 0 ∨ i.ty < b
 res : i.res = 0 ∨ i.res < b
 args : ∀ k (h : k < i.args.length), i.args[k].kind = 1 → 0 < i.args[k].n ∧ i.args[k].n < b
theorem oN {n b : Nat} (h0 : n ≠ 0) (h1 : n < b) : nA n b = 0 := by unfold nA; rw [if_neg (by omega)]
theorem oO {m : Bool} {n n' b b' e : Nat} (h : n = 0 ↔ n' = 0) (h1 : n = 0 ∨ n < b) (h2 : n' = 0 ∨ n' < b') : iH m n b e = iH m n' b' e := by
 unfold iH;by_cases h0 : n = 0
 ·have h0' := h.1 h0
  subst h0 h0'
  cases m <;> rfl
 ·have h0' : n' ≠ 0 := fun q => h0 (h.2 q)
  rw [oN h0 (by omega), oN h0' (by omega)];simp [h0, h0']
theorem lU {f : Fm} {k : Nat} {a b : Ag} (h : pY a b) : iU f k a ↔ iU f k b := by
 unfold iU;rw [h.kind, h.s];by_cases h1 : b.kind = 1
 ·simp [h1]
 ·rw [h.n (by rw [h.kind]; exact h1)]
theorem yR {f : Fm} {k bd bd' : Nat} {a b : Ag} (h : pY a b) (h1 : a.kind = 1 → 0 < a.n ∧ a.n < bd) (h2 : b.kind = 1 → 0 < b.n ∧ b.n < bd') : lX f bd k a = lX f bd' k b := by
 unfold lX;simp only [lU h, h.kind, h.s];by_cases hk : b.kind = 1
 ·have e1 := h1 (h.kind.trans hk)
  have e2 := h2 hk;rw [oN (by omega) e1.2, oN (by omega) e2.2];simp [hk]
 ·rw [h.n (by rw [h.kind]; exact hk)]
  simp [hk]
theorem zQ {f : Fm} {k : Nat} {a b : Ag} (h : pY a b) : kg f k a = kg f k b := by
 unfold kg; simp only [lU h, h.kind, h.s]
theorem wR {f : Fm} {k : Nat} {a b : Ag} (h : pY a b) : jc f k a = jc f k b := by
 unfold jc; simp only [lU h, h.kind, h.s]
theorem uo {f : Fm} {b b' : Nat} {i j : In} (h : jH i j) (hi : jG i b) (hj : jG j b') (s : Nat × Nat × Nat) : ∀ k, k ≤ i.args.length → eF f b i.args s k = eF f b' j.args s k
 | 0, _ => rfl
 | k + 1, hk => by
  have h1 : k < i.args.length := by omega
  have h2 : k < j.args.length := by have := h.len; omega
  have g1 : i.args.getD k wH = i.args[k] := by rw [List.getD_eq_getElem?_getD, List.getElem?_eq_getElem h1]; rfl
  have g2 : j.args.getD k wH = j.args[k] := by rw [List.getD_eq_getElem?_getD, List.getElem?_eq_getElem h2]; rfl
  have ih := uo h hi hj s k (by omega) (f := f);simp only [eF, g1, g2, ih, yR (h.args k h1 h2) (hi.args k h1) (hj.args k h2), zQ (h.args k h1 h2), wR (h.args k h1 h2)]
theorem Dp {i j : In} (h : jH i j) : dF i.args = dF j.args := by
 unfold dF;refine List.ext_getElem (by simpa using h.len) fun k h1 h2 => ?_
 simp only [List.getElem_map];exact (h.args k (by simpa using h1) (by simpa using h2)).kind
theorem nX {i j : In} {b b' : Nat} (h : jH i j) (hi : jG i b) (hj : jG j b') : dx i b = dx j b' := by
 unfold dx fI;rw [h.op, Dp h, ← h.len];have hh : fC (aS j.op) i b = fC (aS j.op) j b' := by
  unfold fC;simp only [oO h.ty hi.ty hj.ty, oO h.res hi.res hj.res, ne_eq, h.ty, h.res]
 rw [hh, uo h hi hj _ _ (Nat.le_refl _)]
def eU (n : Nat) : Ag := ⟨1, n, ⟨#[]⟩⟩
def iY (n : Nat) : Ag := ⟨2, n, ⟨#[]⟩⟩
def kv (n : Nat) : Ag := ⟨4, n, ⟨#[]⟩⟩
def txA (s : ByteArray) : Ag := ⟨3, 0, s⟩
def iK : ByteArray := ⟨#[109, 97, 105, 110]⟩
def ax : List In := [
 ⟨14, 0, 0, [kv 0, kv 0]⟩,
 ⟨15, 0, 0, [kv 0, eU 20, txA iK, eU 10, eU 11, eU 12, eU 13]⟩,
 ⟨71, 0, 0, [eU 10, kv 30, iY 0]⟩,
 ⟨71, 0, 0, [eU 11, kv 30, iY 1]⟩,
 ⟨71, 0, 0, [eU 12, kv 30, iY 0]⟩,
 ⟨71, 0, 0, [eU 13, kv 11, iY 0]⟩,
 ⟨19, 0, 1, []⟩,
 ⟨33, 0, 2, [eU 1]⟩,
 ⟨21, 0, 3, [iY 32, iY 0]⟩,
 ⟨21, 0, 4, [iY 32, iY 1]⟩,
 ⟨23, 0, 5, [eU 4, iY 4]⟩,
 ⟨32, 0, 6, [kv 1, eU 3]⟩,
 ⟨32, 0, 7, [kv 3, eU 3]⟩,
 ⟨32, 0, 8, [kv 3, eU 5]⟩,
 ⟨46, 5, 9, []⟩,
 ⟨59, 6, 10, [kv 1]⟩,
 ⟨59, 6, 11, [kv 1]⟩,
 ⟨59, 7, 12, [kv 3]⟩,
 ⟨59, 8, 13, [kv 3]⟩,
 ⟨54, 1, 20, [kv 0, eU 2]⟩,
 ⟨248, 0, 21, []⟩,
 ⟨61, 3, 22, [eU 10]⟩,
 ⟨61, 3, 23, [eU 11]⟩]
def bQ (n : Nat) : List In := [⟨62, 0, 0, [eU 12, eU (23 + n)]⟩, ⟨62, 0, 0, [eU 13, eU 9]⟩, ⟨253, 0, 0, []⟩, ⟨56, 0, 0, []⟩]
structure Ln where
 op : Nat
 ty : Nat
 x : Nat
 y : Nat
def dZ (k : Nat) (x : Ln) : In := ⟨x.op, x.ty, 24 + k, [eU x.x, eU x.y]⟩
def df (n : Nat) (f : Nat → Ln) (k : Nat) : In :=
 if k < 23 then ax.getD k ai else if k < 23 + n then dZ (k - 23) (f (k - 23)) else (bQ n).getD (k - 23 - n) ai
def aj (n : Nat) (f : Nat → Ln) : List In := (List.range (27 + n)).map (df n f)
def eH (op : Nat) : Bool := [128, 130, 132, 134, 135, 137, 138, 139, 194, 195, 196, 197, 198, 199].contains op
structure bu (n : Nat) (f : Nat → Ln) : Prop where
 small : n ≤ 1000
 op : ∀ k, k < n → eH (f k).op = true
 ty : ∀ k, k < n → (f k).ty = 3 ∨ (f k).ty = 5
 x : ∀ k, k < n → 22 ≤ (f k).x ∧ (f k).x < 24 + k
 y : ∀ k, k < n → 22 ≤ (f k).y ∧ (f k).y < 24 + k
section
variable {n : Nat} {f : Nat → Ln}
theorem ak : (aj n f).length = 27 + n := by simp [aj]
theorem aF (k : Nat) (h : k < (aj n f).length) : (aj n f)[k] = df n f k := by simp [aj]
theorem mW (k : Nat) (h : k < 27 + n) : (aj n f).getD k ai = df n f k := by
 rw [List.getD_eq_getElem?_getD, List.getElem?_eq_getElem (by rw [ak]; exact h), aF]; rfl
inductive qZ (n : Nat) (f : Nat → Ln) (k : Nat) : In → Prop
 | head (h : k < 23) : qZ n f k (ax.getD k ai)
 | line (j : Nat) (h : j < n) (hk : k = 23 + j) : qZ n f k (dZ j (f j))
 | tail (j : Nat) (h : j < 4) (hk : k = 23 + n + j) : qZ n f k ((bQ n).getD j ai)
theorem kE (k : Nat) (h : k < 27 + n) : qZ n f k (df n f k) := by
 unfold df;by_cases h1 : k < 23
 ·rw [if_pos h1]; exact .head h1
 ·rw [if_neg h1]
  by_cases h2 : k < 23 + n
  ·rw [if_pos h2]; exact .line _ (by omega) (by omega)
  ·rw [if_neg h2]; exact .tail _ (by omega) (by omega)
theorem aI {k : Nat} (h : k < 23) : df n f k = ax.getD k ai := by unfold df; rw [if_pos h]
theorem dY {k j : Nat} (h : j < n) (hk : k = 23 + j) : df n f k = dZ j (f j) := by
 subst hk;unfold df; rw [if_neg (by omega), if_pos (by omega), Nat.add_sub_cancel_left]
theorem bI {k j : Nat} (hk : k = 23 + n + j) : df n f k = (bQ n).getD j ai := by
 subst hk;unfold df; rw [if_neg (by omega), if_neg (by omega)]
 congr 1
 omega
theorem dn {op : Nat} (h : eH op = true) : op ∈ [128, 130, 132, 134, 135, 137, 138, 139, 194, 195, 196, 197, 198, 199] := by
 unfold eH at h;exact List.contains_iff_mem.1 h
end
end Go.Proofs.YtlkolghiknbbfaaGreatDoor
namespace Go.Proofs.YtlkolghiknbbfaaGreatDoor
open Go.RowKit
abbrev Pr := In × Option Addr × Nat
def dI (p : List Pr) : List Value := p.flatMap fun x => [.int .u16 x.1.op, .int .u32 x.1.ty, .int .u32 x.1.res, .slice x.2.1 x.1.args.length x.2.2]
theorem lu (p : List Pr) (x : Pr) : dI (p ++ [x]) = dI p ++ [.int .u16 x.1.op, .int .u32 x.1.ty, .int .u32 x.1.res, .slice x.2.1 x.1.args.length x.2.2] := by simp [dI]
def dm (a : Ag) : List Value := [.int .u8 a.kind, .int .u32 a.n, .string a.s]
def fD (D : Nat → Prop) (p : List Pr) : As := ⟨D, fun W => ∀ x ∈ p, 0 < x.1.args.length → ∃ b, x.2.1 = some ⟨b, 0, none⟩ ∧ D b ∧ ∀ j v, (x.1.args.flatMap dm)[j]? = some v → W.cell? ⟨b, j, none⟩ = some v, fun W W' h hk x hx h0 => by
 obtain ⟨b, e, hb, hc⟩ := h x hx h0
 exact ⟨b, e, hb, fun j v hv => (World.cell?_of_block (a := ⟨b, j, none⟩) (hk b hb)).trans (hc j v hv)⟩⟩
def og (w : World) (gm : Nat) (bd : Int) (v : Value) (p : List Pr) (D : Nat → Prop) (L : List As) : List As :=
 bM w.heap.size 73 4 v p.length (dI p) :: aP gm #[.int .u32 0, .int .u32 bd, v] 34 :: fD D p :: L
structure uO (p : List Pr) (l : List In) : Prop where
 eq : p.map Prod.fst = l
 cap : ∀ x ∈ p, x.1.args.length ≤ x.2.2
theorem uO.snoc {p : List Pr} {l : List In} (h : uO p l) (x : Pr) (hx : x.1.args.length ≤ x.2.2) : uO (p ++ [x]) (l ++ [x.1]) :=
 ⟨by rw [List.map_append, h.eq]; rfl, fun y hy => (List.mem_append.1 hy).elim (h.cap y) (fun q => by rw [List.mem_singleton.1 q]; exact hx)⟩
structure iJ (w : World) (gm : Nat) (bd : Int) (L : List As) (l : List In) (W : World) : Prop where
 at_ : ∃ p v D, uO p l ∧ Own aK w (og w gm bd v p D L) W
theorem bD {p : List Pr} {l : List In} (h : uO p l) : p.length = l.length := by rw [← h.eq]; simp
theorem iJ.push {w W : World} {gm : Nat} {bd : Int} {L : List As} {p : List Pr} {D : Nat → Prop} {v' : Value} {H n : Nat} {cs : Array Value} {i : In} {xs : List Value} (h : Own aK w (bM w.heap.size 73 4 v' n xs :: aP H cs 64 :: aP gm #[.int .u32 0, .int .u32 bd, v'] 34 :: fD D p :: L) W) (ac : Nat) (l : List In) (hp : uO p l) (hn : n = p.length + 1) (hx : xs = dI p ++ [.int .u16 i.op, .int .u32 i.ty, .int .u32 i.res, .slice (some ⟨H, 0, none⟩) i.args.length ac]) (hc : cs.toList = i.args.flatMap dm) (hac : i.args.length ≤ ac := by exact Nat.le_refl _) : iJ w gm bd L (l ++ [i]) W := by
 have h2 := (h.perm (List.perm_middle (l₁ := [_, _]) (a := aP gm #[.int .u32 0, .int .u32 bd, v'] 34) (l₂ := fD D p :: L))).perm (List.perm_middle (l₁ := [_]) (a := bM w.heap.size 73 4 v' n xs) (l₂ := aP H cs 64 :: fD D p :: L));have h3 := (h2.perm (List.perm_middle (l₁ := [_, _]) (a := aP H cs 64) (l₂ := fD D p :: L))).perm (List.perm_middle (l₁ := [_, _, _]) (a := fD D p) (l₂ := L));have h4 := (h3.perm (List.Perm.swap _ _ _)).join;have hA := h.at 1 rfl;have hB := h.at 3 rfl
 have h5 := h4.recast 0 (A' := fD (fun k => k = H ∨ D k) (p ++ [(i, some ⟨H, 0, none⟩, ac)])) rfl (fun k hk => hk) (fun x hx h0 => by
  rcases List.mem_append.1 hx with hx | hx
  ·obtain ⟨b, e, hb, hcc⟩ := hB x hx h0
   exact ⟨b, e, .inr hb, hcc⟩
  ·rw [List.mem_singleton.1 hx]
   refine ⟨H, rfl, .inl rfl, fun j v hv => ?_⟩
   rw [h.cells 1 rfl j, ← Array.getElem?_toList, hc, hv])
 simp only [List.set_cons_zero] at h5;refine ⟨p ++ [(i, some ⟨H, 0, none⟩, ac)], v', (fun k => k = H ∨ D k), hp.snoc (i, some ⟨H, 0, none⟩, ac) hac, ?_⟩;have h6 := h5.perm (List.perm_middle (l₁ := [_, _]) (a := fD (fun k => k = H ∨ D k) (p ++ [(i, some ⟨H, 0, none⟩, ac)])) (l₂ := L)).symm;unfold og;rw [lu, List.length_append, List.length_singleton, ← hn, ← hx];exact h6
theorem iJ.push0 {w W : World} {gm : Nat} {bd : Int} {L : List As} {p : List Pr} {D : Nat → Prop} {v' : Value} {n : Nat} {i : In} {xs : List Value} (h : Own aK w (bM w.heap.size 73 4 v' n xs :: aP gm #[.int .u32 0, .int .u32 bd, v'] 34 :: fD D p :: L) W) (l : List In) (hp : uO p l) (hn : n = p.length + 1) (hx : xs = dI p ++ [.int .u16 i.op, .int .u32 i.ty, .int .u32 i.res, .slice none i.args.length 0]) (h0 : i.args = []) : iJ w gm bd L (l ++ [i]) W := by
 have hB := h.at 2 rfl
 have h5 := h.recast 2 (A' := fD D (p ++ [(i, none, 0)])) rfl (fun k hk => hk) (fun x hx h1 => by
  rcases List.mem_append.1 hx with hx | hx
  ·exact hB x hx h1
  ·rw [List.mem_singleton.1 hx] at h1
   simp [h0] at h1)
 simp only [yT] at h5;refine ⟨p ++ [(i, none, 0)], v', D, hp.snoc (i, none, 0) (by rw [h0]; exact Nat.le_refl _), ?_⟩;unfold og;rw [lu, List.length_append, List.length_singleton, ← hn, ← hx];exact h5
theorem aH {P : Program} {ops : Array Oper} {Q : Exit → Act → World → Prop} {md : Region.Mode} {fuel : Nat} {listed : Array Bool} {a : Act} {X : Nat → Prop} {w W : World} {L : List As} {o : Obj} (h : Own X w L W) (k : ∀ W', Own X w (blk W.heap.size o :: L) W' → nZ P md ops Q fuel listed a W') : nZ P md ops Q fuel listed a (W.alloc o) := k _ (h.alloc o)
theorem bA {F : Nat → World → Prop} {w : World} {LH : Nat → List As} {g : Prop} (h2 : (∀ H W, Own aK w (LH H) W → F H W) → g) (h1 : ∀ H W, Own aK w (LH H) W → F H W) : g := h2 h1
theorem Aq {P : Program} {ops : Array Oper} {Q : Exit → Act → World → Prop} {S : World → Prop} {md : Region.Mode} {fuel : Nat} {listed : Array Bool} {a : Act} {X : Nat → Prop} {w W : World} {L : List As} {o : Obj} (h : Own X w L W) (k : ∀ W', Own X w (blk W.heap.size o :: L) W' → wpS P md ops Q S fuel listed a W') : wpS P md ops Q S fuel listed a (W.alloc o) := k _ (h.alloc o)
structure wP (w : World) (b o n : Nat) (ln : Nat → Nat × Int × Int) : Prop where
 lt : 0 < n → b < w.heap.size
 op : ∀ k, k < n → w.cell? ⟨b, o + k * 3, none⟩ = some (.int .u16 (ln k).1)
 a : ∀ k, k < n → w.cell? ⟨b, o + k * 3 + 1, none⟩ = some (.int .i64 (ln k).2.1)
 b : ∀ k, k < n → w.cell? ⟨b, o + k * 3 + 2, none⟩ = some (.int .i64 (ln k).2.2)
 op_lt : ∀ k, k < n → (ln k).1 < 65536
 a_in : ∀ k, k < n → -9223372036854775808 ≤ (ln k).2.1 ∧ (ln k).2.1 < 9223372036854775808
 b_in : ∀ k, k < n → -9223372036854775808 ≤ (ln k).2.2 ∧ (ln k).2.2 < 9223372036854775808
theorem wP.below {w w' : World} {b o n : Nat} {ln : Nat → Nat × Int × Int} (h : wP w b o n ln) (hb : Bl w w') : wP w' b o n ln :=
 ⟨fun q => Nat.lt_of_lt_of_le (h.lt q) hb.size, fun k hk => ae (h.op k hk) (h.lt (by omega)) hb, fun k hk => ae (h.a k hk) (h.lt (by omega)) hb, fun k hk => ae (h.b k hk) (h.lt (by omega)) hb, h.op_lt, h.a_in, h.b_in⟩
def xW (ln : Nat → Nat × Int × Int) (k : Nat) : Ln := ⟨(ln k).1, 3, 22 + bh (ln k).2.1 (k + 2), 22 + bh (ln k).2.2 (k + 2)⟩
def qU (ln : Nat → Nat × Int × Int) (k : Nat) : List In := ax ++ (List.range k).map fun j => dZ j (xW ln j)
theorem oQ (ln : Nat → Nat × Int × Int) (k : Nat) : (qU ln k).length = 23 + k := by simp [qU, ax]; omega
theorem Fz (ln : Nat → Nat × Int × Int) (k : Nat) : qU ln (k + 1) = qU ln k ++ [dZ k (xW ln k)] := by simp [qU, List.range_succ]
theorem nk (k : Int) (n : Nat) (h : 0 < n) : bh k n < n := by unfold bh; split <;> omega
end Go.Proofs.YtlkolghiknbbfaaGreatDoor
