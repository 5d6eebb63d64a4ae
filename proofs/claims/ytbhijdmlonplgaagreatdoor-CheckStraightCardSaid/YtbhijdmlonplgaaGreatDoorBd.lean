/- The kit: arguments, add, Behind. -/
import Derived.Test.YtbhijdmlonplgaaGreatDoorAf
import Derived.Test.YtbhijdmlonplgaaGreatDoorAe
import Derived.Test.YtbhijdmlonplgaaGreatDoorAo
namespace Go.Proofs.YtbhijdmlonplgaaGreatDoor
set_option linter.unusedVariables false
set_option linter.unusedSimpArgs false
set_option maxRecDepth 100000
set_option maxHeartbeats 4000000
open Go.RowKit
theorem infoArg : (Tryz.prog.info? 45).map (·.size) = some 3 := by kernel_rfl
theorem kenum_own (n : Int) (w : World) : Calls Tryz.prog 9 #[.int .u32 n] w fun e w' => e = .returned (.agg #[.int .u8 4, .int .u32 n, .string ⟨#[]⟩]) ∧ Below w.heap.size w w' := by
 have HO := Own.nil w
 go_enter Tryz.func9, Tryz.ntmps9
 go_wp2_with (first | ((first | (with_reducible refine sp_al HO ?_; intro g hg; rw [← hg.out]; clear hg) | (with_reducible refine sp_alc HO ?_; intro g hg; rw [← hg.out]; clear hg) | (with_reducible refine sp_sk HO ?_) | (with_reducible refine sp_skc HO ?_) | (refine sp_wk HO rfl 45 _ _ rfl rfl rfl (by kernel_rfl) (by rfl) (by simp [Value.oneCell']) ?_)); intro W' HO'; clear HO; (try clear kk); have HO := HO'; clear HO'; (try simp only [zTz, zTs, zTa] at HO); (try have kk := HO.kk); skip))
 refine bodyPost_ret_by (res_row rfl _ _ _ 45 #[.int .u8 4, .int .u32 n, .string ⟨#[]⟩] _ _ rfl (HO.blk 0 rfl) Tryz.underlying45 rfl infoArg) rfl ?_
 exact ⟨rfl, HO.below⟩
theorem kid_own (n : Int) (w : World) : Calls Tryz.prog 10 #[.int .u32 n] w fun e w' => e = .returned (.agg #[.int .u8 1, .int .u32 n, .string ⟨#[]⟩]) ∧ Below w.heap.size w w' := by
 have HO := Own.nil w
 go_enter Tryz.func10, Tryz.ntmps10
 go_wp2_with (first | ((first | (with_reducible refine sp_al HO ?_; intro g hg; rw [← hg.out]; clear hg) | (with_reducible refine sp_alc HO ?_; intro g hg; rw [← hg.out]; clear hg) | (with_reducible refine sp_sk HO ?_) | (with_reducible refine sp_skc HO ?_) | (refine sp_wk HO rfl 45 _ _ rfl rfl rfl (by kernel_rfl) (by rfl) (by simp [Value.oneCell']) ?_)); intro W' HO'; clear HO; (try clear kk); have HO := HO'; clear HO'; (try simp only [zTz, zTs, zTa] at HO); (try have kk := HO.kk); skip))
 refine bodyPost_ret_by (res_row rfl _ _ _ 45 #[.int .u8 1, .int .u32 n, .string ⟨#[]⟩] _ _ rfl (HO.blk 0 rfl) Tryz.underlying45 rfl infoArg) rfl ?_
 exact ⟨rfl, HO.below⟩
theorem knumber_own (n : Int) (w : World) : Calls Tryz.prog 12 #[.int .u32 n] w fun e w' => e = .returned (.agg #[.int .u8 2, .int .u32 n, .string ⟨#[]⟩]) ∧ Below w.heap.size w w' := by
 have HO := Own.nil w
 go_enter Tryz.func12, Tryz.ntmps12
 go_wp2_with (first | ((first | (with_reducible refine sp_al HO ?_; intro g hg; rw [← hg.out]; clear hg) | (with_reducible refine sp_alc HO ?_; intro g hg; rw [← hg.out]; clear hg) | (with_reducible refine sp_sk HO ?_) | (with_reducible refine sp_skc HO ?_) | (refine sp_wk HO rfl 45 _ _ rfl rfl rfl (by kernel_rfl) (by rfl) (by simp [Value.oneCell']) ?_)); intro W' HO'; clear HO; (try clear kk); have HO := HO'; clear HO'; (try simp only [zTz, zTs, zTa] at HO); (try have kk := HO.kk); skip))
 refine bodyPost_ret_by (res_row rfl _ _ _ 45 #[.int .u8 2, .int .u32 n, .string ⟨#[]⟩] _ _ rfl (HO.blk 0 rfl) Tryz.underlying45 rfl infoArg) rfl ?_
 exact ⟨rfl, HO.below⟩
theorem ktext_own (s : ByteArray) (w : World) : Calls Tryz.prog 11 #[.string s] w fun e w' => e = .returned (.agg #[.int .u8 3, .int .u32 0, .string s]) ∧ Below w.heap.size w w' := by
 have HO := Own.nil w
 go_enter Tryz.func11, Tryz.ntmps11
 go_wp2_with (first | ((first | (with_reducible refine sp_al HO ?_; intro g hg; rw [← hg.out]; clear hg) | (with_reducible refine sp_alc HO ?_; intro g hg; rw [← hg.out]; clear hg) | (with_reducible refine sp_sk HO ?_) | (with_reducible refine sp_skc HO ?_) | (refine sp_wk HO rfl 45 _ _ rfl rfl rfl (by kernel_rfl) (by rfl) (by simp [Value.oneCell']) ?_)); intro W' HO'; clear HO; (try clear kk); have HO := HO'; clear HO'; (try simp only [zTz, zTs, zTa] at HO); (try have kk := HO.kk); skip))
 refine bodyPost_ret_by (res_row rfl _ _ _ 45 #[.int .u8 3, .int .u32 0, .string s] _ _ rfl (HO.blk 0 rfl) Tryz.underlying45 rfl infoArg) rfl ?_
 exact ⟨rfl, HO.below⟩
theorem el_inst : El 28 41 4 40 := El.of Tryz.underlying28 (z := .agg #[.int .u16 0, .int .u32 0, .int .u32 0, .slice none 0 0]) (by kernel_rfl) rfl (by omega)
theorem kadd_own (w0 : World) (v : Value) (n : Nat) (xs : List Value) (L : List As) (op ty id : Nat) (aa : Option Addr) (an ac : Nat) (w : World) (H : Own noX w0 (rw_ w0.heap.size 41 4 v n xs :: L) w) (hn : n ≤ 100000) :
  Calls Tryz.prog 8 #[v, .int .u16 op, .int .u32 ty, .int .u32 id, .slice aa an ac] w fun e w' => ∃ g c, e = .returned (.slice (some ⟨g, 0, none⟩) (n + 1) c) ∧ Own noX w0 (rw_ w0.heap.size 41 4 (.slice (some ⟨g, 0, none⟩) (n + 1) c) (n + 1) (xs ++ [.int .u16 op, .int .u32 ty, .int .u32 id, .slice aa an ac]) :: L) w' := by
 have HO := H
 clear H
 go_enter Tryz.func8, Tryz.ntmps8
 go_wp2_with (first | ((first | (with_reducible refine sp_al HO ?_; intro g hg; rw [← hg.out]; clear hg) | (with_reducible refine sp_sk HO ?_) | (with_reducible refine sp_skc HO ?_)); intro W' HO'; clear HO; (try clear kk); have HO := HO'; clear HO'; (try simp only [zTz, zTs, zTa] at HO); (try have kk := HO.kk); skip) | ((with_reducible refine at_append ?_); refine sp_append HO el_inst 1 0 rfl rfl rfl _ _ rfl rfl rfl rfl (by simp [Value.oneCell']) (by omega) (by omega) (Nat.le_refl _) ?_; intro gm cm W' HO'; clear HO; (try clear kk); skip; have HO := HO'; clear HO'; (try simp only [zTz, zTs, zTa, zDs, zDz] at HO); (try have kk := HO.kk); skip))
 go_ret
 exact ⟨_, _, rfl, HO.drop 1⟩
def bh (k : Int) (n : Nat) : Nat := if k < 0 ∨ (n : Int) ≤ k then n - 1 else n - 1 - k.toNat
theorem kbehind_own (k : Int) (n : Nat) (w : World) (hk : -9223372036854775808 ≤ k ∧ k < 9223372036854775808) (hn : 1 ≤ n ∧ n < 4294967296) :
  Calls Tryz.prog 13 #[.int .i64 k, .int .u32 n] w fun e w' => e = .returned (.int .u32 (bh k n)) ∧ w' = w := by
 unfold bh
 by_cases h1 : k < 0
 ·rw [if_pos (.inl h1)]
  go_enter Tryz.func13, Tryz.ntmps13
  go_wp2_with fail
  go_ret
  exact ⟨by go_num, rfl⟩
 ·by_cases h2 : (n : Int) ≤ k
  ·rw [if_pos (.inr h2)]
   go_enter Tryz.func13, Tryz.ntmps13
   go_wp2_with fail
   go_ret
   exact ⟨by go_num, rfl⟩
  ·rw [if_neg (by omega)]
   go_enter Tryz.func13, Tryz.ntmps13
   go_wp2_with fail
   go_ret
   exact ⟨by go_num, rfl⟩
end Go.Proofs.YtbhijdmlonplgaaGreatDoor
namespace Go.Proofs.YtbhijdmlonplgaaGreatDoor
set_option linter.unusedVariables false
set_option linter.unusedSimpArgs false
set_option maxRecDepth 100000
set_option maxHeartbeats 1000000
open Go.RowKit
structure AgLike (a b : Ag) : Prop where
 kind : a.kind = b.kind
 s : a.s = b.s
 n : a.kind ≠ 1 → a.n = b.n
structure InLike (i j : In) : Prop where
 op : i.op = j.op
 ty : i.ty = 0 ↔ j.ty = 0
 res : i.res = 0 ↔ j.res = 0
 len : i.args.length = j.args.length
 args : ∀ k (h : k < i.args.length) (h' : k < j.args.length), AgLike i.args[k] j.args[k]
structure IdsIn (i : In) (b : Nat) : Prop where
 ty : i.ty = 0 ∨ i.ty < b
 res : i.res = 0 ∨ i.res < b
 args : ∀ k (h : k < i.args.length), i.args[k].kind = 1 → 0 < i.args[k].n ∧ i.args[k].n < b
theorem idErr_ok {n b : Nat} (h0 : n ≠ 0) (h1 : n < b) : idErr n b = 0 := by unfold idErr; rw [if_neg (by omega)]
theorem headErr_like {m : Bool} {n n' b b' e : Nat} (h : n = 0 ↔ n' = 0) (h1 : n = 0 ∨ n < b) (h2 : n' = 0 ∨ n' < b') : headErr m n b e = headErr m n' b' e := by
 unfold headErr
 by_cases h0 : n = 0
 ·have h0' := h.1 h0
  subst h0 h0'
  cases m <;> rfl
 ·have h0' : n' ≠ 0 := fun q => h0 (h.2 q)
  rw [idErr_ok h0 (by omega), idErr_ok h0' (by omega)]
  simp [h0, h0']
theorem argBad_like {f : Fm} {k : Nat} {a b : Ag} (h : AgLike a b) : argBad f k a ↔ argBad f k b := by
 unfold argBad
 rw [h.kind, h.s]
 by_cases h1 : b.kind = 1
 ·simp [h1]
 ·rw [h.n (by rw [h.kind]; exact h1)]
theorem argErr_like {f : Fm} {k bd bd' : Nat} {a b : Ag} (h : AgLike a b) (h1 : a.kind = 1 → 0 < a.n ∧ a.n < bd) (h2 : b.kind = 1 → 0 < b.n ∧ b.n < bd') : argErr f bd k a = argErr f bd' k b := by
 unfold argErr
 simp only [argBad_like h, h.kind, h.s]
 by_cases hk : b.kind = 1
 ·have e1 := h1 (h.kind.trans hk)
  have e2 := h2 hk
  rw [idErr_ok (by omega) e1.2, idErr_ok (by omega) e2.2]
  simp [hk]
 ·rw [h.n (by rw [h.kind]; exact hk)]
  simp [hk]
theorem argPut_like {f : Fm} {k : Nat} {a b : Ag} (h : AgLike a b) : argPut f k a = argPut f k b := by
 unfold argPut; simp only [argBad_like h, h.kind, h.s]
theorem argRoom_like {f : Fm} {k : Nat} {a b : Ag} (h : AgLike a b) : argRoom f k a = argRoom f k b := by
 unfold argRoom; simp only [argBad_like h, h.kind, h.s]
theorem rawTo_like {f : Fm} {b b' : Nat} {i j : In} (h : InLike i j) (hi : IdsIn i b) (hj : IdsIn j b') (s : Nat × Nat × Nat) : ∀ k, k ≤ i.args.length → rawTo f b i.args s k = rawTo f b' j.args s k
 | 0, _ => rfl
 | k + 1, hk => by
  have h1 : k < i.args.length := by omega
  have h2 : k < j.args.length := by have := h.len; omega
  have g1 : i.args.getD k noAg = i.args[k] := by rw [List.getD_eq_getElem?_getD, List.getElem?_eq_getElem h1]; rfl
  have g2 : j.args.getD k noAg = j.args[k] := by rw [List.getD_eq_getElem?_getD, List.getElem?_eq_getElem h2]; rfl
  have ih := rawTo_like h hi hj s k (by omega) (f := f)
  simp only [rawTo, g1, g2, ih, argErr_like (h.args k h1 h2) (hi.args k h1) (hj.args k h2), argPut_like (h.args k h1 h2), argRoom_like (h.args k h1 h2)]
theorem kinds_like {i j : In} (h : InLike i j) : kindsOf i.args = kindsOf j.args := by
 unfold kindsOf
 refine List.ext_getElem (by simpa using h.len) fun k h1 h2 => ?_
 simp only [List.getElem_map]
 exact (h.args k (by simpa using h1) (by simpa using h2)).kind
theorem rawOf_like {i j : In} {b b' : Nat} (h : InLike i j) (hi : IdsIn i b) (hj : IdsIn j b') : rawOf i b = rawOf j b' := by
 unfold rawOf wholeErr
 rw [h.op, kinds_like h, ← h.len]
 have hh : rawHead (formOf j.op) i b = rawHead (formOf j.op) j b' := by
  unfold rawHead
  simp only [headErr_like h.ty hi.ty hj.ty, headErr_like h.res hi.res hj.res, ne_eq, h.ty, h.res]
 rw [hh, rawTo_like h hi hj _ _ (Nat.le_refl _)]
def idA (n : Nat) : Ag := ⟨1, n, ⟨#[]⟩⟩
def numA (n : Nat) : Ag := ⟨2, n, ⟨#[]⟩⟩
def enA (n : Nat) : Ag := ⟨4, n, ⟨#[]⟩⟩
def txA (s : ByteArray) : Ag := ⟨3, 0, s⟩
def mainS : ByteArray := ⟨#[109, 97, 105, 110]⟩
def headL : List In := [
 ⟨14, 0, 0, [enA 0, enA 0]⟩,
 ⟨15, 0, 0, [enA 0, idA 20, txA mainS, idA 10, idA 11, idA 12, idA 13]⟩,
 ⟨71, 0, 0, [idA 10, enA 30, numA 0]⟩,
 ⟨71, 0, 0, [idA 11, enA 30, numA 1]⟩,
 ⟨71, 0, 0, [idA 12, enA 30, numA 0]⟩,
 ⟨71, 0, 0, [idA 13, enA 11, numA 0]⟩,
 ⟨19, 0, 1, []⟩,
 ⟨33, 0, 2, [idA 1]⟩,
 ⟨21, 0, 3, [numA 32, numA 0]⟩,
 ⟨21, 0, 4, [numA 32, numA 1]⟩,
 ⟨23, 0, 5, [idA 4, numA 4]⟩,
 ⟨32, 0, 6, [enA 1, idA 3]⟩,
 ⟨32, 0, 7, [enA 3, idA 3]⟩,
 ⟨32, 0, 8, [enA 3, idA 5]⟩,
 ⟨46, 5, 9, []⟩,
 ⟨59, 6, 10, [enA 1]⟩,
 ⟨59, 6, 11, [enA 1]⟩,
 ⟨59, 7, 12, [enA 3]⟩,
 ⟨59, 8, 13, [enA 3]⟩,
 ⟨54, 1, 20, [enA 0, idA 2]⟩,
 ⟨248, 0, 21, []⟩,
 ⟨61, 3, 22, [idA 10]⟩,
 ⟨61, 3, 23, [idA 11]⟩]
def tailL (n : Nat) : List In := [⟨62, 0, 0, [idA 12, idA (23 + n)]⟩, ⟨62, 0, 0, [idA 13, idA 9]⟩, ⟨253, 0, 0, []⟩, ⟨56, 0, 0, []⟩]
structure Ln where
 op : Nat
 ty : Nat
 x : Nat
 y : Nat
def lineI (k : Nat) (x : Ln) : In := ⟨x.op, x.ty, 24 + k, [idA x.x, idA x.y]⟩
def strAt (n : Nat) (f : Nat → Ln) (k : Nat) : In :=
 if k < 23 then headL.getD k noIn else if k < 23 + n then lineI (k - 23) (f (k - 23)) else (tailL n).getD (k - 23 - n) noIn
def strL (n : Nat) (f : Nat → Ln) : List In := (List.range (27 + n)).map (strAt n f)
def isTwo (op : Nat) : Bool := [128, 130, 132, 134, 135, 137, 138, 139, 194, 195, 196, 197, 198, 199].contains op
structure StrOk (n : Nat) (f : Nat → Ln) : Prop where
 small : n ≤ 1000
 op : ∀ k, k < n → isTwo (f k).op = true
 ty : ∀ k, k < n → (f k).ty = 3 ∨ (f k).ty = 5
 x : ∀ k, k < n → 22 ≤ (f k).x ∧ (f k).x < 24 + k
 y : ∀ k, k < n → 22 ≤ (f k).y ∧ (f k).y < 24 + k
section
variable {n : Nat} {f : Nat → Ln}
theorem strL_len : (strL n f).length = 27 + n := by simp [strL]
theorem strL_get (k : Nat) (h : k < (strL n f).length) : (strL n f)[k] = strAt n f k := by simp [strL]
theorem strL_getD (k : Nat) (h : k < 27 + n) : (strL n f).getD k noIn = strAt n f k := by
 rw [List.getD_eq_getElem?_getD, List.getElem?_eq_getElem (by rw [strL_len]; exact h), strL_get]; rfl
inductive StrCase (n : Nat) (f : Nat → Ln) (k : Nat) : In → Prop
 | head (h : k < 23) : StrCase n f k (headL.getD k noIn)
 | line (j : Nat) (h : j < n) (hk : k = 23 + j) : StrCase n f k (lineI j (f j))
 | tail (j : Nat) (h : j < 4) (hk : k = 23 + n + j) : StrCase n f k ((tailL n).getD j noIn)
theorem str_case (k : Nat) (h : k < 27 + n) : StrCase n f k (strAt n f k) := by
 unfold strAt
 by_cases h1 : k < 23
 ·rw [if_pos h1]; exact .head h1
 ·rw [if_neg h1]
  by_cases h2 : k < 23 + n
  ·rw [if_pos h2]; exact .line _ (by omega) (by omega)
  ·rw [if_neg h2]; exact .tail _ (by omega) (by omega)
theorem strAt_head {k : Nat} (h : k < 23) : strAt n f k = headL.getD k noIn := by unfold strAt; rw [if_pos h]
theorem strAt_line {k j : Nat} (h : j < n) (hk : k = 23 + j) : strAt n f k = lineI j (f j) := by
 subst hk
 unfold strAt; rw [if_neg (by omega), if_pos (by omega), Nat.add_sub_cancel_left]
theorem strAt_tail {k j : Nat} (hk : k = 23 + n + j) : strAt n f k = (tailL n).getD j noIn := by
 subst hk
 unfold strAt; rw [if_neg (by omega), if_neg (by omega)]
 congr 1
 omega
theorem isTwo_mem {op : Nat} (h : isTwo op = true) : op ∈ [128, 130, 132, 134, 135, 137, 138, 139, 194, 195, 196, 197, 198, 199] := by
 unfold isTwo at h
 exact List.contains_iff_mem.1 h
end
end Go.Proofs.YtbhijdmlonplgaaGreatDoor
namespace Go.Proofs.YtbhijdmlonplgaaGreatDoor
set_option linter.unusedVariables false
set_option linter.unusedSimpArgs false
set_option maxRecDepth 100000
set_option maxHeartbeats 4000000
open Go.RowKit
abbrev Pr := In × Option Addr × Nat
def flatI (p : List Pr) : List Value := p.flatMap fun x => [.int .u16 x.1.op, .int .u32 x.1.ty, .int .u32 x.1.res, .slice x.2.1 x.1.args.length x.2.2]
theorem flatI_snoc (p : List Pr) (x : Pr) : flatI (p ++ [x]) = flatI p ++ [.int .u16 x.1.op, .int .u32 x.1.ty, .int .u32 x.1.res, .slice x.2.1 x.1.args.length x.2.2] := by simp [flatI]
def agCells (a : Ag) : List Value := [.int .u8 a.kind, .int .u32 a.n, .string a.s]
def argsA (D : Nat → Prop) (p : List Pr) : As := ⟨D, fun W => ∀ x ∈ p, 0 < x.1.args.length → ∃ b, x.2.1 = some ⟨b, 0, none⟩ ∧ D b ∧ ∀ j v, (x.1.args.flatMap agCells)[j]? = some v → W.cell? ⟨b, j, none⟩ = some v, fun W W' h hk x hx h0 => by
 obtain ⟨b, e, hb, hc⟩ := h x hx h0
 exact ⟨b, e, hb, fun j v hv => (World.cell?_of_block (a := ⟨b, j, none⟩) (hk b hb)).trans (hc j v hv)⟩⟩
def stS (w : World) (gm : Nat) (bd : Int) (v : Value) (p : List Pr) (D : Nat → Prop) (L : List As) : List As :=
 rw_ w.heap.size 41 4 v p.length (flatI p) :: cls gm #[.int .u32 0, .int .u32 bd, v] 30 :: argsA D p :: L
structure StP (w : World) (gm : Nat) (bd : Int) (L : List As) (l : List In) (W : World) : Prop where
 at_ : ∃ p v D, p.map Prod.fst = l ∧ Own noX w (stS w gm bd v p D L) W
theorem stp_len {p : List Pr} {l : List In} (h : p.map Prod.fst = l) : p.length = l.length := by rw [← h]; simp
theorem StP.push {w W : World} {gm : Nat} {bd : Int} {L : List As} {p : List Pr} {D : Nat → Prop} {v' : Value} {H n : Nat} {cs : Array Value} {i : In} {xs : List Value} (h : Own noX w (rw_ w.heap.size 41 4 v' n xs :: cls H cs 45 :: cls gm #[.int .u32 0, .int .u32 bd, v'] 30 :: argsA D p :: L) W) (ac : Nat) (l : List In) (hp : p.map Prod.fst = l) (hn : n = p.length + 1) (hx : xs = flatI p ++ [.int .u16 i.op, .int .u32 i.ty, .int .u32 i.res, .slice (some ⟨H, 0, none⟩) i.args.length ac]) (hc : cs.toList = i.args.flatMap agCells) : StP w gm bd L (l ++ [i]) W := by
 have h2 := (h.perm (List.perm_middle (l₁ := [_, _]) (a := cls gm #[.int .u32 0, .int .u32 bd, v'] 30) (l₂ := argsA D p :: L))).perm (List.perm_middle (l₁ := [_]) (a := rw_ w.heap.size 41 4 v' n xs) (l₂ := cls H cs 45 :: argsA D p :: L))
 have h3 := (h2.perm (List.perm_middle (l₁ := [_, _]) (a := cls H cs 45) (l₂ := argsA D p :: L))).perm (List.perm_middle (l₁ := [_, _, _]) (a := argsA D p) (l₂ := L))
 have h4 := (h3.perm (List.Perm.swap _ _ _)).join
 have hA := h.at 1 rfl
 have hB := h.at 3 rfl
 have h5 := h4.recast 0 (A' := argsA (fun k => k = H ∨ D k) (p ++ [(i, some ⟨H, 0, none⟩, ac)])) rfl (fun k hk => hk) (fun x hx h0 => by
  rcases List.mem_append.1 hx with hx | hx
  ·obtain ⟨b, e, hb, hcc⟩ := hB x hx h0
   exact ⟨b, e, .inr hb, hcc⟩
  ·rw [List.mem_singleton.1 hx]
   refine ⟨H, rfl, .inl rfl, fun j v hv => ?_⟩
   rw [h.cells 1 rfl j, ← Array.getElem?_toList, hc, hv])
 simp only [List.set_cons_zero] at h5
 refine ⟨p ++ [(i, some ⟨H, 0, none⟩, ac)], v', (fun k => k = H ∨ D k), by simp [hp], ?_⟩
 have h6 := h5.perm (List.perm_middle (l₁ := [_, _]) (a := argsA (fun k => k = H ∨ D k) (p ++ [(i, some ⟨H, 0, none⟩, ac)])) (l₂ := L)).symm
 unfold stS
 rw [flatI_snoc, List.length_append, List.length_singleton, ← hn, ← hx]
 exact h6
theorem StP.push0 {w W : World} {gm : Nat} {bd : Int} {L : List As} {p : List Pr} {D : Nat → Prop} {v' : Value} {n : Nat} {i : In} {xs : List Value} (h : Own noX w (rw_ w.heap.size 41 4 v' n xs :: cls gm #[.int .u32 0, .int .u32 bd, v'] 30 :: argsA D p :: L) W) (l : List In) (hp : p.map Prod.fst = l) (hn : n = p.length + 1) (hx : xs = flatI p ++ [.int .u16 i.op, .int .u32 i.ty, .int .u32 i.res, .slice none i.args.length 0]) (h0 : i.args = []) : StP w gm bd L (l ++ [i]) W := by
 have hB := h.at 2 rfl
 have h5 := h.recast 2 (A' := argsA D (p ++ [(i, none, 0)])) rfl (fun k hk => hk) (fun x hx h1 => by
  rcases List.mem_append.1 hx with hx | hx
  ·exact hB x hx h1
  ·rw [List.mem_singleton.1 hx] at h1
   simp [h0] at h1)
 simp only [List.set_cons_zero, List.set_cons_succ] at h5
 refine ⟨p ++ [(i, none, 0)], v', D, by simp [hp], ?_⟩
 unfold stS
 rw [flatI_snoc, List.length_append, List.length_singleton, ← hn, ← hx]
 exact h5
theorem sx_alloc {P : Program} {ops : Array Oper} {Q : Exit → Act → World → Prop} {md : Region.Mode} {fuel : Nat} {listed : Array Bool} {a : Act} {X : Nat → Prop} {w W : World} {L : List As} {o : Obj} (h : Own X w L W) (k : ∀ W', Own X w (blk W.heap.size o :: L) W' → wpX P md ops Q fuel listed a W') : wpX P md ops Q fuel listed a (W.alloc o) := k _ (h.alloc o)
theorem merge_HW {F : Nat → World → Prop} {w : World} {LH : Nat → List As} {g : Prop} (h2 : (∀ H W, Own noX w (LH H) W → F H W) → g) (h1 : ∀ H W, Own noX w (LH H) W → F H W) : g := h2 h1
theorem ss_alloc {P : Program} {ops : Array Oper} {Q : Exit → Act → World → Prop} {S : World → Prop} {md : Region.Mode} {fuel : Nat} {listed : Array Bool} {a : Act} {X : Nat → Prop} {w W : World} {L : List As} {o : Obj} (h : Own X w L W) (k : ∀ W', Own X w (blk W.heap.size o :: L) W' → wpS P md ops Q S fuel listed a W') : wpS P md ops Q S fuel listed a (W.alloc o) := k _ (h.alloc o)
structure LnAt (w : World) (b o n : Nat) (ln : Nat → Nat × Int × Int) : Prop where
 lt : 0 < n → b < w.heap.size
 op : ∀ k, k < n → w.cell? ⟨b, o + k * 3, none⟩ = some (.int .u16 (ln k).1)
 a : ∀ k, k < n → w.cell? ⟨b, o + k * 3 + 1, none⟩ = some (.int .i64 (ln k).2.1)
 b : ∀ k, k < n → w.cell? ⟨b, o + k * 3 + 2, none⟩ = some (.int .i64 (ln k).2.2)
 op_lt : ∀ k, k < n → (ln k).1 < 65536
 a_in : ∀ k, k < n → -9223372036854775808 ≤ (ln k).2.1 ∧ (ln k).2.1 < 9223372036854775808
 b_in : ∀ k, k < n → -9223372036854775808 ≤ (ln k).2.2 ∧ (ln k).2.2 < 9223372036854775808
theorem LnAt.below {w w' : World} {b o n : Nat} {ln : Nat → Nat × Int × Int} (h : LnAt w b o n ln) (hb : Below w.heap.size w w') : LnAt w' b o n ln :=
 ⟨fun q => Nat.lt_of_lt_of_le (h.lt q) hb.size, fun k hk => cell_last (h.op k hk) (h.lt (by omega)) hb, fun k hk => cell_last (h.a k hk) (h.lt (by omega)) hb, fun k hk => cell_last (h.b k hk) (h.lt (by omega)) hb, h.op_lt, h.a_in, h.b_in⟩
def lnF (ln : Nat → Nat × Int × Int) (k : Nat) : Ln := ⟨(ln k).1, 3, 22 + bh (ln k).2.1 (k + 2), 22 + bh (ln k).2.2 (k + 2)⟩
def preL (ln : Nat → Nat × Int × Int) (k : Nat) : List In := headL ++ (List.range k).map fun j => lineI j (lnF ln j)
theorem preL_len (ln : Nat → Nat × Int × Int) (k : Nat) : (preL ln k).length = 23 + k := by simp [preL, headL]; omega
theorem preL_succ (ln : Nat → Nat × Int × Int) (k : Nat) : preL ln (k + 1) = preL ln k ++ [lineI k (lnF ln k)] := by simp [preL, List.range_succ]
theorem bh_lt (k : Int) (n : Nat) (h : 0 < n) : bh k n < n := by unfold bh; split <;> omega
end Go.Proofs.YtbhijdmlonplgaaGreatDoor
