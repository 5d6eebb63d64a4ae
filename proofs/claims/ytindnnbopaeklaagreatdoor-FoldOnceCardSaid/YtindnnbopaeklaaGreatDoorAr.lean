/- Types: the one that an instruction makes. -/
import Derived.Test.YtindnnbopaeklaaGreatDoorAp
import Derived.Test.YtindnnbopaeklaaGreatDoorAq
import Derived.Test.YtindnnbopaeklaaGreatDoorAk
namespace Go.Proofs.YtindnnbopaeklaaGreatDoor
set_option linter.unusedVariables false
set_option linter.unusedSimpArgs false
set_option maxRecDepth 100000
set_option maxHeartbeats 16000000
open Go.RowKit Go.MapKept
structure TyD where
 kind : Nat
 size : Nat
 depth : Nat
 sg : Bool
 cls : Nat
 part : Nat
 times : Nat
 parts : List Nat
def RowIn (W : World) (lo : Nat) (a : Option Addr) (l : List Nat) : Prop := 0 < l.length → ∃ b o, a = some ⟨b, o, none⟩ ∧ lo ≤ b ∧ ∀ i (h : i < l.length), W.cell? ⟨b, o + i, none⟩ = some (.int .u32 l[i])
theorem RowIn.keep {W W' : World} {lo : Nat} {a : Option Addr} {l : List Nat} (h : RowIn W lo a l) (hk : ∀ k, lo ≤ k → k < W.heap.size → W'.heap[k]? = W.heap[k]?) : RowIn W' lo a l := fun hp => by
 obtain ⟨b, o, ha, hb, hc⟩ := h hp
 exact ⟨b, o, ha, hb, fun i hi => (World.cell?_of_block (a := ⟨b, o + i, none⟩) (hk b hb (block_lt_of_cell (hc i hi)))).trans (hc i hi)⟩
structure TyIs (W : World) (lo : Nat) (x : Ty) (d : TyD) : Prop where
 kind : x.kind = d.kind
 size : x.size = d.size
 depth : x.depth = d.depth
 sg : x.sg = d.sg
 cls : x.cls = d.cls
 part : x.part = d.part
 times : x.times = d.times
 pn : x.pn = d.parts.length
 row : RowIn W lo x.pa d.parts
theorem TyIs.keep {W W' : World} {lo : Nat} {x : Ty} {d : TyD} (h : TyIs W lo x d) (hk : ∀ k, lo ≤ k → k < W.heap.size → W'.heap[k]? = W.heap[k]?) : TyIs W' lo x d :=
 ⟨h.kind, h.size, h.depth, h.sg, h.cls, h.part, h.times, h.pn, h.row.keep hk⟩
def isTyOp (op : Nat) : Bool := [19, 20, 21, 23, 28, 30, 32, 33].contains op
inductive OneIs (f : Nat → Option Ty) : In → Option TyD → Prop
 | other (i : In) (h : isTyOp i.op = false) : OneIs f i none
 | void (ty res : Nat) : OneIs f ⟨19, ty, res, []⟩ (some ⟨1, 0, 0, false, 0, 0, 0, []⟩)
 | int (ty res : Nat) (a b : Ag) (h : a.n = 32) (hb : b.n ≤ 1) : OneIs f ⟨21, ty, res, [a, b]⟩ (some ⟨3, 1, 1, b.n == 1, 0, 0, 0, []⟩)
 | vec (ty res : Nat) (a b : Ag) (hk : (getT f a.n).kind = 3) (hn : 2 ≤ b.n ∧ b.n ≤ 4) (hd : (getT f a.n).depth + 1 ≤ 16) : OneIs f ⟨23, ty, res, [a, b]⟩ (some ⟨4, b.n, (getT f a.n).depth + 1, false, 0, a.n, b.n, []⟩)
 | ptr (ty res : Nat) (a b : Ag) (hs : 0 < (getT f b.n).size) : OneIs f ⟨32, ty, res, [a, b]⟩ (some ⟨7, 0, 0, false, a.n, 0, 0, [b.n]⟩)
 | fn (ty res : Nat) (a : Ag) (hk : (getT f a.n).kind = 1 ∨ 0 < (getT f a.n).size) (hs : (getT f a.n).size = 0 ∨ 0 < (getT f a.n).size) : OneIs f ⟨33, ty, res, [a]⟩ (some ⟨8, 0, 0, false, 0, 0, 0, [a.n]⟩)
structure OneEnd (lo : Nat) (r : Option TyD) (e : Ending) (W : World) : Prop where
 none_ : r = none → e = .returned (.tuple #[encT zT, .bool false, .int .i64 0])
 some_ : ∀ d, r = some d → ∃ x, e = .returned (.tuple #[encT x, .bool true, .int .i64 0]) ∧ TyIs W lo x d
def numsV (l : List Ag) : List Value := l.map fun a => Value.int .u32 a.n
theorem numsV_snoc {l : List Ag} {k : Nat} (h : k < l.length) : numsV (l.take (k + 1)) = numsV (l.take k) ++ [Value.int .u32 l[k].n] := by
 unfold numsV
 rw [List.take_succ_eq_append_getElem h, List.map_append]; rfl
theorem one_other (K T mb : Nat) (f : Nat → Option Ty) (i : In) (a : Option Addr) (cap : Nat) (r : Option TyD) (w : World) (hK : w.cell? ⟨K, 0, none⟩ = some (.pointer (some ⟨T, 0, none⟩))) (hT : TbR T mb f w) (hS : Sl 3 AgAt w a i.args) (hl : i.args.length ≤ 1048576) (h : OneIs f i r) (hop : isTyOp i.op = false) :
  Calls Tryz.prog 90 #[.pointer (some ⟨K, 0, none⟩), .agg #[.int .u16 i.op, .int .u32 i.ty, .int .u32 i.res, .slice a i.args.length cap]] w fun e w' => OneEnd w.heap.size r e w' ∧ Below w.heap.size w w' := by
 have HO := Own.nil w
 have zK := block_lt_of_cell hK
 have HI := hid h
 have HOP := hid hop
 have HT := hid hT
 have HS := hid hS
 have HK := hid hK
 clear h hT hS hK hop
 go_enter Tryz.func90, Tryz.ntmps90
 go_wp2_with (first | ((with_reducible refine sp_alloc HO ?_); clear HO; (try clear kk); intro g W' hg HO; rw [← hg.out]; clear hg; (try simp only [zTz, zTs, zTa] at HO); (try have kk := HO.kk)))
 have HO1 := HO
 clear HO
 obtain ⟨L0, hL, HO⟩ := name_list HO1
 clear HO1
 replace HO := HO.row w.heap.size 23 1
 have H0 := hid HO
 clear HO
 (try clear kk)
 obtain ⟨n, hnn⟩ : ∃ n, Hid (n = i.args.length) := ⟨_, hid rfl⟩
 have hn1 : n ≤ 1048576 := by have := hnn.out; omega
 rw [← hnn.out]
 go_loopw [7, 9, 15] (fun x7 _ x15 wr => ∃ (k : Nat) (v : Value), k ≤ n ∧ x15 = .int .i64 k ∧ x7 = v ∧ Own noX w (rw_ w.heap.size 23 1 v k (numsV (i.args.take k)) :: L0) wr) (fun _ _ x _ => n - (intOf x).toNat)
 case atStart => exact ⟨0, .slice none 0 0, by omega, rfl, rfl, H0.out⟩
 case round =>
  obtain ⟨k, v, hk, rfl, rfl, HO⟩ := hrel
  obtain ⟨av, cv, rfl, hx⟩ := HO.slice 0 rfl
  clear hx H0
  by_cases hlt : k < n
  ·have hkl : k < i.args.length := by have := hnn.out; omega
   obtain ⟨b, o, ha, hbl, hc⟩ := (HS.out.below AgAt.lasts HO.below).at_ (by omega)
   obtain ⟨e0, e1, e2, -, -, -⟩ := hc k hkl
   have hsn := hid (numsV_snoc hkl)
   have i2 : (k : Int) < (n : Int) := by omega
   have HLT := hid hlt
   subst ha
   clear hc
   generalize i.args[k] = x at e0 e1 e2 hsn
   clear hkl hlt
   obtain ⟨kd, xn, xs⟩ := x
   simp only at e0 e1 e2 hsn
   (try simp only [zTz, zTs, zTa, zDs, zDz] at HO); (try have kk := HO.kk)
   go_wp2_with (first | ((first | (with_reducible refine sp_al HO ?_; intro g hg; rw [← hg.out]; clear hg) | (with_reducible first | refine sp_sk HO ?_ | refine sp_skc HO ?_) | (refine sp_wk HO rfl 45 _ _ rfl rfl rfl (by kernel_rfl) (by rfl) (by simp [Value.oneCell']) ?_)); clear HO; (try clear kk); intro W' HO; (try simp only [zTz, zTs, zTa] at HO); (try have kk := HO.kk)) | ((with_reducible refine at_append ?_); refine sp_append HO el_u32 2 0 rfl rfl rfl _ _ rfl rfl rfl rfl (by simp [Value.oneCell']) (by omega) (by omega) (Nat.le_refl _) ?_; intro gm cm W' HO'; clear HO; (try clear kk); have HO := HO'; clear HO'; (try simp only [zTz, zTs, zTa, zDs, zDz] at HO); (try have kk := HO.kk)))
   exact ⟨⟨k + 1, _, HLT.out, by go_num, rfl, by rw [hsn.out]; exact HO.drop 2⟩, by have := HLT.out; simp [intOf]; omega⟩
  ·obtain rfl : k = n := by omega
   have i2 : ¬ ((k : Int) < k) := by omega
   rw [hL.out, List.take_of_length_le (by have := hnn.out; omega)] at HO
   (try simp only [zTz, zTs, zTa, zDs, zDz] at HO); (try have kk := HO.kk)
   go_upto_region 9 with (first | ((with_reducible refine sp_alloc HO ?_); clear HO; (try clear kk); intro g W' hg HO; rw [← hg.out]; clear hg; (try simp only [zTz, zTs, zTa] at HO); (try have kk := HO.kk)))
   try simp only [Act.put]
   (try clear kk)
   have hi := HI.out
   clear HI hL i2 hlt hk
   cases hi with
   | other i h =>
    have ht : ∀ x, isTyOp x = true → ((i.op : Int) == (x : Nat)) = false := fun x hx => by
     rw [beq_eq_false_iff_ne]
     intro e
     have e2 : i.op = x := by omega
     rw [e2, hx] at h
     cases h
    have t1 := ht 19 rfl
    have t2 := ht 20 rfl
    have t3 := ht 21 rfl
    have t4 := ht 23 rfl
    have t5 := ht 28 rfl
    have t6 := ht 30 rfl
    have t7 := ht 32 rfl
    have t8 := ht 33 rfl
    clear ht h
    generalize i.op = iop at HO t1 t2 t3 t4 t5 t6 t7 t8
    (try simp only [zTz, zTs, zTa, zDs, zDz] at HO); (try have kk := HO.kk)
    go_wp2_with (first | ((first | (with_reducible refine sp_al HO ?_; intro g hg; rw [← hg.out]; clear hg) | (with_reducible first | refine sp_sk HO ?_ | refine sp_skc HO ?_) | (refine sp_wk HO rfl 146 _ _ rfl rfl rfl (by kernel_rfl) (by rfl) (by simp [Value.oneCell']) ?_)); clear HO; (try clear kk); intro W' HO; (try simp only [zTz, zTs, zTa] at HO); (try have kk := HO.kk)))
    refine bodyPost_ret_by (res_row_tmp_tmp rfl _ _ _ 146 #[.int .u8 0, .int .i64 0, .int .i64 0, .bool false, .int .u32 0, .int .u32 0, .int .i64 0, .slice none 0 0] _ _ rfl (HO.blk 2 rfl) Tryz.underlying146 rfl infoTy) rfl ?_
    exact ⟨⟨fun _ => rfl, fun d hd => by cases hd⟩, HO.below⟩
   | void ty res => exact absurd HOP.out (show ¬ (isTyOp 19 = false) by decide)
   | int ty res x y h hb => exact absurd HOP.out (show ¬ (isTyOp 21 = false) by decide)
   | vec ty res x y hk hn hd => exact absurd HOP.out (show ¬ (isTyOp 23 = false) by decide)
   | ptr ty res x y hs => exact absurd HOP.out (show ¬ (isTyOp 32 = false) by decide)
   | fn ty res x hk hs => exact absurd HOP.out (show ¬ (isTyOp 33 = false) by decide)
theorem one_void (K T mb : Nat) (f : Nat → Option Ty) (i : In) (a : Option Addr) (cap : Nat) (r : Option TyD) (w : World) (hK : w.cell? ⟨K, 0, none⟩ = some (.pointer (some ⟨T, 0, none⟩))) (hT : TbR T mb f w) (hS : Sl 3 AgAt w a i.args) (hl : i.args.length ≤ 1048576) (h : OneIs f i r) (hop : i.op = 19) :
  Calls Tryz.prog 90 #[.pointer (some ⟨K, 0, none⟩), .agg #[.int .u16 i.op, .int .u32 i.ty, .int .u32 i.res, .slice a i.args.length cap]] w fun e w' => OneEnd w.heap.size r e w' ∧ Below w.heap.size w w' := by
 have HO := Own.nil w
 have zK := block_lt_of_cell hK
 have HI := hid h
 have HOP := hid hop
 have HT := hid hT
 have HS := hid hS
 have HK := hid hK
 clear h hT hS hK hop
 go_enter Tryz.func90, Tryz.ntmps90
 go_wp2_with (first | ((with_reducible refine sp_alloc HO ?_); clear HO; (try clear kk); intro g W' hg HO; rw [← hg.out]; clear hg; (try simp only [zTz, zTs, zTa] at HO); (try have kk := HO.kk)))
 have HO1 := HO
 clear HO
 obtain ⟨L0, hL, HO⟩ := name_list HO1
 clear HO1
 replace HO := HO.row w.heap.size 23 1
 have H0 := hid HO
 clear HO
 (try clear kk)
 obtain ⟨n, hnn⟩ : ∃ n, Hid (n = i.args.length) := ⟨_, hid rfl⟩
 have hn1 : n ≤ 1048576 := by have := hnn.out; omega
 rw [← hnn.out]
 go_loopw [7, 9, 15] (fun x7 _ x15 wr => ∃ (k : Nat) (v : Value), k ≤ n ∧ x15 = .int .i64 k ∧ x7 = v ∧ Own noX w (rw_ w.heap.size 23 1 v k (numsV (i.args.take k)) :: L0) wr) (fun _ _ x _ => n - (intOf x).toNat)
 case atStart => exact ⟨0, .slice none 0 0, by omega, rfl, rfl, H0.out⟩
 case round =>
  obtain ⟨k, v, hk, rfl, rfl, HO⟩ := hrel
  obtain ⟨av, cv, rfl, hx⟩ := HO.slice 0 rfl
  clear hx H0
  by_cases hlt : k < n
  ·have hkl : k < i.args.length := by have := hnn.out; omega
   obtain ⟨b, o, ha, hbl, hc⟩ := (HS.out.below AgAt.lasts HO.below).at_ (by omega)
   obtain ⟨e0, e1, e2, -, -, -⟩ := hc k hkl
   have hsn := hid (numsV_snoc hkl)
   have i2 : (k : Int) < (n : Int) := by omega
   have HLT := hid hlt
   subst ha
   clear hc
   generalize i.args[k] = x at e0 e1 e2 hsn
   clear hkl hlt
   obtain ⟨kd, xn, xs⟩ := x
   simp only at e0 e1 e2 hsn
   (try simp only [zTz, zTs, zTa, zDs, zDz] at HO); (try have kk := HO.kk)
   go_wp2_with (first | ((first | (with_reducible refine sp_al HO ?_; intro g hg; rw [← hg.out]; clear hg) | (with_reducible first | refine sp_sk HO ?_ | refine sp_skc HO ?_) | (refine sp_wk HO rfl 45 _ _ rfl rfl rfl (by kernel_rfl) (by rfl) (by simp [Value.oneCell']) ?_)); clear HO; (try clear kk); intro W' HO; (try simp only [zTz, zTs, zTa] at HO); (try have kk := HO.kk)) | ((with_reducible refine at_append ?_); refine sp_append HO el_u32 2 0 rfl rfl rfl _ _ rfl rfl rfl rfl (by simp [Value.oneCell']) (by omega) (by omega) (Nat.le_refl _) ?_; intro gm cm W' HO'; clear HO; (try clear kk); have HO := HO'; clear HO'; (try simp only [zTz, zTs, zTa, zDs, zDz] at HO); (try have kk := HO.kk)))
   exact ⟨⟨k + 1, _, HLT.out, by go_num, rfl, by rw [hsn.out]; exact HO.drop 2⟩, by have := HLT.out; simp [intOf]; omega⟩
  ·obtain rfl : k = n := by omega
   have i2 : ¬ ((k : Int) < k) := by omega
   rw [hL.out, List.take_of_length_le (by have := hnn.out; omega)] at HO
   (try simp only [zTz, zTs, zTa, zDs, zDz] at HO); (try have kk := HO.kk)
   go_upto_region 9 with (first | ((with_reducible refine sp_alloc HO ?_); clear HO; (try clear kk); intro g W' hg HO; rw [← hg.out]; clear hg; (try simp only [zTz, zTs, zTa] at HO); (try have kk := HO.kk)))
   try simp only [Act.put]
   (try clear kk)
   have hi := HI.out
   clear HI hL i2 hlt hk
   cases hi with
   | other i h => exact absurd h (by rw [HOP.out]; decide)
   | void ty res =>
    dsimp only at HO hnn ⊢
    (try simp only [zTz, zTs, zTa, zDs, zDz] at HO); (try have kk := HO.kk)
    go_wp2_with (first | ((first | (with_reducible refine sp_al HO ?_; intro g hg; rw [← hg.out]; clear hg) | (with_reducible first | refine sp_sk HO ?_ | refine sp_skc HO ?_) | (refine sp_wk HO rfl 146 _ _ rfl rfl rfl (by kernel_rfl) (by rfl) (by simp [Value.oneCell']) ?_)); clear HO; (try clear kk); intro W' HO; (try simp only [zTz, zTs, zTa] at HO); (try have kk := HO.kk)) | (refine sp_lk HO rfl 146 _ rfl rfl _ Tryz.underlying146 rfl (by kernel_rfl) ?_))
    refine bodyPost_ret_by (res_row_tmp_tmp rfl _ _ _ 146 #[.int .u8 1, .int .i64 0, .int .i64 0, .bool false, .int .u32 0, .int .u32 0, .int .i64 0, .slice none 0 0] _ _ rfl (HO.blk 2 rfl) Tryz.underlying146 rfl infoTy) rfl ?_
    exact ⟨⟨(fun h => (by cases h)), fun d hd => by cases hd; exact ⟨⟨1, 0, 0, false, 0, 0, 0, none, 0, 0⟩, rfl, ⟨rfl, rfl, rfl, rfl, rfl, rfl, rfl, rfl, (fun h => (by cases h))⟩⟩⟩, HO.below⟩
   | int ty res x y h hb => exact absurd HOP.out (show ¬ ((21 : Nat) = 19) by decide)
   | vec ty res x y hk hn hd => exact absurd HOP.out (show ¬ ((23 : Nat) = 19) by decide)
   | ptr ty res x y hs => exact absurd HOP.out (show ¬ ((32 : Nat) = 19) by decide)
   | fn ty res x hk hs => exact absurd HOP.out (show ¬ ((33 : Nat) = 19) by decide)
theorem one_ptr (K T mb : Nat) (f : Nat → Option Ty) (i : In) (a : Option Addr) (cap : Nat) (r : Option TyD) (w : World) (hK : w.cell? ⟨K, 0, none⟩ = some (.pointer (some ⟨T, 0, none⟩))) (hT : TbR T mb f w) (hS : Sl 3 AgAt w a i.args) (hl : i.args.length ≤ 1048576) (h : OneIs f i r) (hop : i.op = 32) :
  Calls Tryz.prog 90 #[.pointer (some ⟨K, 0, none⟩), .agg #[.int .u16 i.op, .int .u32 i.ty, .int .u32 i.res, .slice a i.args.length cap]] w fun e w' => OneEnd w.heap.size r e w' ∧ Below w.heap.size w w' := by
 have HO := Own.nil w
 have zK := block_lt_of_cell hK
 have HI := hid h
 have HOP := hid hop
 have HT := hid hT
 have HS := hid hS
 have HK := hid hK
 clear h hT hS hK hop
 go_enter Tryz.func90, Tryz.ntmps90
 go_wp2_with (first | ((with_reducible refine sp_alloc HO ?_); clear HO; (try clear kk); intro g W' hg HO; rw [← hg.out]; clear hg; (try simp only [zTz, zTs, zTa] at HO); (try have kk := HO.kk)))
 have HO1 := HO
 clear HO
 obtain ⟨L0, hL, HO⟩ := name_list HO1
 clear HO1
 replace HO := HO.row w.heap.size 23 1
 have H0 := hid HO
 clear HO
 (try clear kk)
 obtain ⟨n, hnn⟩ : ∃ n, Hid (n = i.args.length) := ⟨_, hid rfl⟩
 have hn1 : n ≤ 1048576 := by have := hnn.out; omega
 rw [← hnn.out]
 go_loopw [7, 9, 15] (fun x7 _ x15 wr => ∃ (k : Nat) (v : Value), k ≤ n ∧ x15 = .int .i64 k ∧ x7 = v ∧ Own noX w (rw_ w.heap.size 23 1 v k (numsV (i.args.take k)) :: L0) wr) (fun _ _ x _ => n - (intOf x).toNat)
 case atStart => exact ⟨0, .slice none 0 0, by omega, rfl, rfl, H0.out⟩
 case round =>
  obtain ⟨k, v, hk, rfl, rfl, HO⟩ := hrel
  obtain ⟨av, cv, rfl, hx⟩ := HO.slice 0 rfl
  clear hx H0
  by_cases hlt : k < n
  ·have hkl : k < i.args.length := by have := hnn.out; omega
   obtain ⟨b, o, ha, hbl, hc⟩ := (HS.out.below AgAt.lasts HO.below).at_ (by omega)
   obtain ⟨e0, e1, e2, -, -, -⟩ := hc k hkl
   have hsn := hid (numsV_snoc hkl)
   have i2 : (k : Int) < (n : Int) := by omega
   have HLT := hid hlt
   subst ha
   clear hc
   generalize i.args[k] = x at e0 e1 e2 hsn
   clear hkl hlt
   obtain ⟨kd, xn, xs⟩ := x
   simp only at e0 e1 e2 hsn
   (try simp only [zTz, zTs, zTa, zDs, zDz] at HO); (try have kk := HO.kk)
   go_wp2_with (first | ((first | (with_reducible refine sp_al HO ?_; intro g hg; rw [← hg.out]; clear hg) | (with_reducible first | refine sp_sk HO ?_ | refine sp_skc HO ?_) | (refine sp_wk HO rfl 45 _ _ rfl rfl rfl (by kernel_rfl) (by rfl) (by simp [Value.oneCell']) ?_)); clear HO; (try clear kk); intro W' HO; (try simp only [zTz, zTs, zTa] at HO); (try have kk := HO.kk)) | ((with_reducible refine at_append ?_); refine sp_append HO el_u32 2 0 rfl rfl rfl _ _ rfl rfl rfl rfl (by simp [Value.oneCell']) (by omega) (by omega) (Nat.le_refl _) ?_; intro gm cm W' HO'; clear HO; (try clear kk); have HO := HO'; clear HO'; (try simp only [zTz, zTs, zTa, zDs, zDz] at HO); (try have kk := HO.kk)))
   exact ⟨⟨k + 1, _, HLT.out, by go_num, rfl, by rw [hsn.out]; exact HO.drop 2⟩, by have := HLT.out; simp [intOf]; omega⟩
  ·obtain rfl : k = n := by omega
   have i2 : ¬ ((k : Int) < k) := by omega
   rw [hL.out, List.take_of_length_le (by have := hnn.out; omega)] at HO
   (try simp only [zTz, zTs, zTa, zDs, zDz] at HO); (try have kk := HO.kk)
   go_upto_region 9 with (first | ((with_reducible refine sp_alloc HO ?_); clear HO; (try clear kk); intro g W' hg HO; rw [← hg.out]; clear hg; (try simp only [zTz, zTs, zTa] at HO); (try have kk := HO.kk)))
   try simp only [Act.put]
   (try clear kk)
   have hi := HI.out
   clear HI hL i2 hlt hk
   cases hi with
   | other i h => exact absurd h (by rw [HOP.out]; decide)
   | void ty res => exact absurd HOP.out (show ¬ ((19 : Nat) = 32) by decide)
   | int ty res x y h hb => exact absurd HOP.out (show ¬ ((21 : Nat) = 32) by decide)
   | vec ty res x y hk hn hd => exact absurd HOP.out (show ¬ ((23 : Nat) = 32) by decide)
   | ptr ty res x y hs =>
    dsimp only at HO hnn ⊢
    obtain ⟨xk, xn, xs⟩ := x
    obtain ⟨yk, yn, ys⟩ := y
    simp only at hs
    obtain rfl : k = 2 := hnn.out
    obtain ⟨g3, rfl, hlo, hlt3, hcap3, hc3⟩ := HO.slice2 1 rfl (by omega)
    have r0 : W'.cell? ⟨g3, 0, none⟩ = some (.int .u32 xn) := hc3 0 _ rfl
    have r1 : W'.cell? ⟨g3, 1, none⟩ = some (.int .u32 yn) := hc3 1 _ rfl
    clear hc3
    have cP : ∀ W, Below w.heap.size w W → Calls Tryz.prog 133 #[.pointer (some ⟨T, 0, none⟩), .int .u32 yn] W fun e w' => e = .returned (.bool true) ∧ w' = W := fun W hb => by
     have := plain_own T mb f yn W (HT.out.below hb)
     rw [decide_eq_true hs] at this
     exact this
    have HKK : W'.cell? ⟨K, 0, none⟩ = some (.pointer (some ⟨T, 0, none⟩)) := (HO.old K 0 zK).trans HK.out
    have zK' : K < W'.heap.size := Nat.lt_of_lt_of_le zK HO.size
    have nK : K ≠ g := by have := HO.le 0 rfl; omega
    have n3 : g3 ≠ g := HO.neDom 1 0 rfl rfl (by omega) rfl
    (try simp only [zTz, zTs, zTa, zDs, zDz] at HO); (try have kk := HO.kk)
    (try replace kk := kk.2)
    go_wp2_with fail
    have O0 := Only.refl g W'
    refine wp_region_held_drew (S := fun W => (∀ b j, b < W'.heap.size → b ≠ g → W.cell? ⟨b, j, none⟩ = W'.cell? ⟨b, j, none⟩) ∧ Only g W' W) (by kernel_rfl) (mkX g W' _ (only_drew O0)) (fun hHeld => ?_)
    refine hTp 0 ?_
    refine hTp 1 ?_
    refine hTp 2 ?_
    refine hTp 3 ?_
    refine hTp 4 ?_
    refine hTp 5 ?_
    refine hTp 6 ?_
    refine wpAnyH_ready (rs := [7]) (by kernel_rfl) (by simp) ?_
    refine AllReadyH.cons (by simp only [zGa, zGs, zGz]; rfl) (fun K hK => ?_) AllReadyH.nil
    go_simp; go_at_call 133; (with_reducible refine (cP _ HO.drew.below).mono ?_); rintro e w1 ⟨rfl, rfl⟩; go_simp
    refine hK.out _ _ ?_ (fun hHeld => ?_)
    ·(refine mkX g W' _ ?_; repeat (first | exact O0 | refine only_drew ?_ | refine only_set ?_ | refine only_row ?_ | refine only_map ?_ | refine only_al ?_ _ | refine only_call ?_ hn1.out | refine only_setc ?_ (by first | assumption | omega)))
    clear hK K
    try simp only [Act.put, zTa, zTz, zTs]
    refine hTp 8 ?_
    refine wpAnyH_done (by kernel_rfl) ?_ _
    refine sp_exit HO.drew ?_
    clear O0 HO HKK r0 r1 n3
    intro W' HO
    (try clear kk)
    have r0 : W'.cell? ⟨g3, 0, none⟩ = some (.int .u32 xn) := HO.rowcell 1 0 rfl rfl
    have zg3 : g3 < W'.heap.size := (HO.low _ (List.mem_of_getElem? (i := 1) rfl) g3 rfl).2
    have n3 : g3 ≠ g := HO.neDom 1 0 rfl rfl (by omega) rfl
    have nc : ¬ (cv = 1) := by omega
    have nc2 : 1 ≤ cv := by omega
    (try simp only [zTz, zTs, zTa, zDs, zDz] at HO); (try have kk := HO.kk)
    (try replace kk := kk.2)
    go_wp2_with fail
    have O0 := Only.refl g W'
    refine wp_region_held_drew (S := fun W => (∀ b j, b < W'.heap.size → b ≠ g → W.cell? ⟨b, j, none⟩ = W'.cell? ⟨b, j, none⟩) ∧ Only g W' W) (by kernel_rfl) (mkX g W' _ (only_drew O0)) (fun hHeld => ?_)
    refine hTp 0 ?_
    refine hTp 1 ?_
    refine hTp 2 ?_
    refine hTp 3 ?_
    refine hTp 4 ?_
    refine hTp 5 ?_
    refine hTp 6 ?_
    refine wpAnyH_ready (rs := [7]) (by kernel_rfl) (by simp) ?_
    refine AllReadyH.cons (by simp only [zGa, zGs, zGz]; rfl) (fun K hK => ?_) AllReadyH.nil
    (refine st_plain rfl (wp_store_row 146 (.tmp 10) (.tmp 111) rfl _ #[.int .u8 7, .int .i64 0, .int .i64 0, .bool false, .int .u32 xn, .int .u32 0, .int .i64 0, .slice (some ⟨g3, 1, none⟩) 1 (cv - 1)] rfl rfl 146 _ (HO.drew.blk 0 rfl) infoTy rfl (by simp [Value.oneCell']) ?_))
    refine hK.out _ _ ?_ (fun hHeld => ?_)
    ·(refine mkX g W' _ ?_; repeat (first | exact O0 | refine only_drew ?_ | refine only_set ?_ | refine only_row ?_ | refine only_map ?_ | refine only_al ?_ _ | refine only_call ?_ hn1.out | refine only_setc ?_ (by first | assumption | omega)))
    clear hK K
    try simp only [Act.put, zTa, zTz, zTs]
    refine wpAnyH_done (by kernel_rfl) ?_ _
    refine sp_exit (HO.drew.put 0 _ rfl) ?_
    clear HO O0 r0 n3 zg3 nc nc2
    intro W' HO
    simp only [List.set_cons_zero] at HO
    (try clear kk)
    (try simp only [zTz, zTs, zTa, zDs, zDz] at HO); (try have kk := HO.kk)
    go_wp2_with (first | ((first | (with_reducible refine sp_al HO ?_; intro g hg; rw [← hg.out]; clear hg) | (with_reducible first | refine sp_sk HO ?_ | refine sp_skc HO ?_) | (refine sp_wk HO rfl 146 _ _ rfl rfl rfl (by kernel_rfl) (by rfl) (by simp [Value.oneCell']) ?_)); clear HO; (try clear kk); intro W' HO; (try simp only [zTz, zTs, zTa] at HO); (try have kk := HO.kk)) | (refine sp_lk HO rfl 146 _ rfl rfl _ Tryz.underlying146 rfl (by kernel_rfl) ?_))
    refine bodyPost_ret_by (res_row_tmp_tmp rfl _ _ _ 146 #[.int .u8 7, .int .i64 0, .int .i64 0, .bool false, .int .u32 xn, .int .u32 0, .int .i64 0, .slice (some ⟨g3, 1, none⟩) 1 (cv - 1)] _ _ rfl (HO.blk 2 rfl) Tryz.underlying146 rfl infoTy) rfl ?_
    exact ⟨⟨fun h => (by cases h), fun d hd => by cases hd; exact ⟨⟨7, 0, 0, false, xn, 0, 0, some ⟨g3, 1, none⟩, 1, cv - 1⟩, rfl, ⟨rfl, rfl, rfl, rfl, rfl, rfl, rfl, rfl, fun _ => ⟨g3, 1, rfl, hlo, fun i hi => by
     obtain rfl : i = 0 := by simpa using hi
     exact HO.rowcell 1 1 rfl rfl⟩⟩⟩⟩, HO.below⟩
   | fn ty res x hk hs => exact absurd HOP.out (show ¬ ((33 : Nat) = 32) by decide)
end Go.Proofs.YtindnnbopaeklaaGreatDoor
