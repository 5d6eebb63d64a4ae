/- Check: the list of the checks; the iterator over it. -/
import Derived.Test.YtlkolghiknbbfaaGreatDoorAf
import Derived.Test.YtlkolghiknbbfaaGreatDoorAe
set_option linter.unusedVariables false
set_option linter.unusedSimpArgs false
set_option maxRecDepth 100000
set_option maxHeartbeats 4000000
namespace Go.Proofs.YtlkolghiknbbfaaGreatDoor
open Go.RowKit Go.Shelf
attribute [local go_sem] Oper.semAt_some
def nm : Nat → ByteArray
 | 0 => ⟨#[115, 104, 97, 112, 101]⟩ | 1 => ⟨#[108, 97, 121, 111, 117, 116]⟩ | 2 => ⟨#[105, 100, 115]⟩ | 3 => ⟨#[116, 121, 112, 101, 115]⟩ | 4 => ⟨#[99, 111, 110, 115, 116, 115]⟩
 | 5 => ⟨#[110, 101, 115, 116]⟩ | 6 => ⟨#[99, 97, 108, 108, 115]⟩ | 7 => ⟨#[116, 121, 112, 105, 110, 103]⟩ | 8 => ⟨#[102, 108, 111, 119]⟩ | _ => ⟨#[102, 97, 99, 101]⟩
def fo : Nat → Nat
 | 0 => 139 | 1 => 233 | 2 => 91 | 3 => 234 | 4 => 235
 | 5 => 236 | 6 => 237 | 7 => 238 | 8 => 239 | _ => 240
def lH (k : Nat) : Value := .func (.func (fo k)) #[] #[]
def fB : Array Value := #[.string (nm 0), lH 0, .string (nm 1), lH 1, .string (nm 2), lH 2, .string (nm 3), lH 3, .string (nm 4), lH 4, .string (nm 5), lH 5, .string (nm 6), lH 6, .string (nm 7), lH 7, .string (nm 8), lH 8, .string (nm 9), lH 9]
theorem GQ (w : World) : Calls Tryz.prog 196 #[] w fun e w' => e = .returned (.slice (some ⟨w.heap.size, 0, none⟩) 10 10) ∧ w' = w.alloc (.cells fB 185) := by
 go_enter Tryz.func196, Tryz.ntmps196;go_wp2;go_ret;exact ⟨rfl, rfl⟩
theorem JL (w : World) : Calls Tryz.prog 158 #[] w fun e w' => e = .returned (.func (.func 195) #[] #[]) ∧ w' = w := by
 go_enter Tryz.func158, Tryz.ntmps158;go_wp2;go_ret;exact ⟨rfl, rfl⟩
theorem GG (k : Nat) (hk : k < 10) : fB[k * 2]? = some (.string (nm k)) := by
 match k, hk with
 | 0, _ => rfl | 1, _ => rfl | 2, _ => rfl | 3, _ => rfl | 4, _ => rfl | 5, _ => rfl | 6, _ => rfl | 7, _ => rfl | 8, _ => rfl | 9, _ => rfl
theorem ML (k : Nat) (hk : k < 10) : fB[k * 2 + 1]? = some (lH k) := by
 match k, hk with
 | 0, _ => rfl | 1, _ => rfl | 2, _ => rfl | 3, _ => rfl | 4, _ => rfl | 5, _ => rfl | 6, _ => rfl | 7, _ => rfl | 8, _ => rfl | 9, _ => rfl
def rl (k : Nat) : Value := .agg #[.string (nm k), lH k]
set_option maxHeartbeats 1000000 in
theorem EG : Iu 195 #[] (fun _ => True) (fun k => #[rl k]) 10 := by
 intro l J Jx W _ hl hJ hJx hY h0
 show Calls _ _ #[.func (.yield l) #[] #[]] W _
 refine (callsIn_wide (n := 1)).1 ?_;refine callsIn_of_wp Tryz.func195 rfl trivial ?_ rfl;simp only [Tryz.ntmps195, List.size_toArray, List.length_cons, List.length_nil, Nat.reduceAdd, Nat.reduceSub, Array.replicate_succ, Array.replicate_zero, List.push_toArray, List.append_toArray, List.nil_append, List.cons_append]
 gi_wp2_with (refine ⟨trivial, ?_⟩; gi_at_call 196; refine (callsIn_wide.2 (GQ _)).mono ?_; rintro e w1 ⟨rfl, rfl⟩)
 have hr0 : (W.alloc (.cells fB 185)).heap[W.heap.size]? = some (.cells fB 185) := World.alloc_heap_new W _;have hJ0 : J 0 (W.alloc (.cells fB 185)) := hJ 0 _ _ h0 ((Below.refl _ W).alloc (Nat.le_refl _) _);have hA0 : Aside W.heap.size W (W.alloc (.cells fB 185)) := Aside.alloc _ _ _;have hs0 : W.heap.size < (W.alloc (.cells fB 185)).heap.size := by simp
 generalize W.alloc (.cells fB 185) = W0 at hr0 hJ0 hA0 hs0 ⊢
 gi_loopw [6] (fun i wr => ∃ k : Nat, k ≤ 10 ∧ i = .int .i64 k ∧ J k wr ∧ wr.heap[W.heap.size]? = some (.cells fB 185) ∧ Aside W.heap.size W wr) (fun i _ => 10 - (intOf i).toNat)
 case atStart => exact ⟨0, by omega, rfl, hJ0, hr0, hA0⟩
 case round =>
  clear hr0 hJ0 hA0 hs0;obtain ⟨k, hk, rfl, hJk, hrk, hAk⟩ := hrel;have hsz := hAk.1;by_cases hlt : k < 10
  ·have d1 : wr.cell? ⟨W.heap.size, k * 2, none⟩ = some (.string (nm k)) := by rw [cell_of_row wr _ _ _ _ _ hrk]; exact GG k hlt
   have d2 : wr.cell? ⟨W.heap.size, k * 2 + 1, none⟩ = some (.func (.func (fo k)) #[] #[]) := by rw [cell_of_row wr _ _ _ _ _ hrk]; exact ML k hlt
   have hY1 := hY k (wr.alloc (.cells #[.string (nm k), .func (.func (fo k)) #[] #[]] 185)) hlt (hJ k _ _ hJk ((Below.refl _ wr).alloc (by omega) _)) (by simp; omega);unfold rl lH at hY1;obtain ⟨fn, tmps, assign, body, hy, hR⟩ := hY1;have hlr := (Array.getElem?_eq_some_iff.1 hrk).1;have HRK := Lib.hid hrk;clear hrk;gi_wp2;refine hR.mono ?_;rintro e W3 ⟨⟨rfl, hJ3⟩ | ⟨rfl, hJx3⟩, hA3⟩
   ·gi_wp2
    go_roundw
    case rel => exact ⟨k + 1, by omega, by go_num, hJ3, (hA3.2 _ (Nat.le_refl _) (by simp; omega)).trans ((Below.heap_alloc wr _ _ (by omega)).trans HRK.out), hAk.trans ((Aside.alloc _ _ _).trans hA3)⟩
    case measure => simp [intOf]; omega
   ·gi_wp2
    refine bodyPost_ret (results_none rfl _ _ _) rfl ?_;exact ⟨⟨_, rfl⟩, .inr ⟨k, hJx3⟩, hAk.trans ((Aside.alloc _ _ _).trans hA3)⟩
  ·obtain rfl : k = 10 := by omega
   gi_wp2;go_end0;exact ⟨⟨_, rfl⟩, .inl hJk, hAk⟩
end Go.Proofs.YtlkolghiknbbfaaGreatDoor
namespace Go.Proofs.YtlkolghiknbbfaaGreatDoor
open Go.RowKit Go.Shelf
def NB (gen bound : Nat) (a : Option Addr) (n c : Nat) : Value := .agg #[.int .u32 gen, .int .u32 bound, .slice a n c]
abbrev MR (S x y : Nat) : As := aP S #[.int .i64 x, .int .i64 y] 39
theorem Dv (k : Nat) (hk : k < 10) (gen bound : Nat) (a : Option Addr) (n c e1 e2 x y S M : Nat) (w : World) (hS : w.heap[S]? = some (.cells #[.int .i64 x, .int .i64 y] 39 (0, 0))) (hM : w.heap[M]? = some (.cells #[.int .u32 gen, .int .u32 bound, .slice a n c] 34 (0, 0))) (hne : M ≠ S)
  (cA : ∀ (L : List As) (W : World), Own (fun b => b = S) w L W → Calls Tryz.prog (fo k) #[NB gen bound a n c] W fun e w' => e = .returned (.agg #[.int .i64 e1, .int .i64 e2]) ∧ Bl W w') :
  Calls Tryz.prog 110 #[rl k, .pointer (some ⟨M, 0, none⟩), .pointer (some ⟨S, 0, none⟩)] w fun e w' => e = .returned (.bool (!((e1 : Int) == 0))) ∧ Step (MR S x y) (MR S e1 e2) w w' := by
 have zM := (Array.getElem?_eq_some_iff.1 hM).1;have zS := (Array.getElem?_eq_some_iff.1 hS).1;have HO : Own (fun b => b = S) w [MR S x y] w := Own.start (A := MR S x y) hS (fun k hk => by cases hk; exact zS);have hMk : ∀ (L : List As) (W : World), Own (fun b => b = S) w L W → W.heap[M]? = some (.cells #[.int .u32 gen, .int .u32 bound, .slice a n c] 34 (0, 0)) := fun L W h => (h.keep M zM hne).trans hM
 clear hS hM;unfold NB at cA;unfold MR at HO ⊢;rcases (show k = 0 ∨ k = 1 ∨ k = 2 ∨ k = 3 ∨ k = 4 ∨ k = 5 ∨ k = 6 ∨ k = 7 ∨ k = 8 ∨ k = 9 by omega) with rfl | rfl | rfl | rfl | rfl | rfl | rfl | rfl | rfl | rfl
 all_goals
  clear hk;unfold rl lH;unfold fo at cA ⊢;go_enter Tryz.func110, Tryz.ntmps110;go_wp2_with (first | ((with_reducible refine aM HO ?_); clear HO; (try clear kk); intro g W' hg HO; rw [← hg.out]; clear hg; (try simp only [yT] at HO); have kk := HO.kk) | (refine wpList_load_row rfl 34 _ rfl M rfl 34 _ _ _ (hMk _ _ HO) Tryz.underlying34 rfl (by kernel_rfl) ?_) | ((refine ay 39 HO ?_); clear HO; (try clear kk); intro W' HO kk) | ((first | go_at_call 139 | go_at_call 233 | go_at_call 91 | go_at_call 234 | go_at_call 235 | go_at_call 236 | go_at_call 237 | go_at_call 238 | go_at_call 239 | go_at_call 240); with_reducible refine bq HO (cA _ _ HO) ?_; clear HO; (try clear kk); intro w1 HO kk));go_ret;exact ⟨rfl, Own.done (A := MR S x y) (HO.drop 1)⟩
end Go.Proofs.YtlkolghiknbbfaaGreatDoor
namespace Go.Proofs.YtlkolghiknbbfaaGreatDoor
open Go.RowKit Go.Shelf
attribute [local go_sem] Oper.semAt_some
structure Gn (B : Nat) (fv : Value) (W : World) (c0 c1 : Value) (b : Bool) : Prop where
 h : W.heap[B]? = some (.cells #[fv] 188 (0, 0))
 r : W.heap[B + 1]? = some (.cells #[c0, c1] 185 (0, 0))
 is : W.heap[B + 2]? = some (.cells #[.bool b] 4 (0, 0))
theorem Gn.keep {B : Nat} {fv c0 c1 : Value} {b : Bool} {W W' : World} (h : Gn B fv W c0 c1 b) (hb : Below (B + 3) W W') : Gn B fv W' c0 c1 b :=
 ⟨(hb.block _ (by omega)).trans h.h, (hb.block _ (by omega)).trans h.r, (hb.block _ (by omega)).trans h.is⟩
theorem Gn.aside {B : Nat} {fv c0 c1 : Value} {b : Bool} {W W' : World} (h : Gn B fv W c0 c1 b) (hb : Aside B W W') : Gn B fv W' c0 c1 b := by
 have z0 := (Array.getElem?_eq_some_iff.1 h.h).1;have z1 := (Array.getElem?_eq_some_iff.1 h.r).1;have z2 := (Array.getElem?_eq_some_iff.1 h.is).1;exact ⟨(hb.2 _ (by omega) z0).trans h.h, (hb.2 _ (by omega) z1).trans h.r, (hb.2 _ (by omega) z2).trans h.is⟩
theorem NS (w : World) (o0 o1 o2 : Obj) : (((w.alloc o0).alloc o1).alloc o2).heap[w.heap.size]? = some o0 ∧ (((w.alloc o0).alloc o1).alloc o2).heap[w.heap.size + 1]? = some o1 ∧ (((w.alloc o0).alloc o1).alloc o2).heap[w.heap.size + 2]? = some o2 := by
 have h1 := World.alloc_heap_new (w.alloc o0) o1;have h2 := World.alloc_heap_new ((w.alloc o0).alloc o1) o2;simp only [World.size_alloc] at h1 h2;exact ⟨(Below.heap_alloc _ _ _ (by simp <;> omega)).trans ((Below.heap_alloc _ _ _ (by simp)).trans (World.alloc_heap_new w o0)), (Below.heap_alloc _ _ _ (by simp)).trans h1, h2⟩
theorem oD {P : Program} {fn : Func} {p u : Tmp} {ty ty' : TypeId} (h : fn.results = #[.cell p ty, .cell u ty']) (tmps : Array Value) (w : World) (g g' : Nat) (t : TypeId) (cs : Array Value) (fr : Nat × Nat) (d : TypeDesc) (v : Value)
  (hp : tmps.getD p undef = .pointer (some ⟨g, 0, none⟩)) (hg : w.heap[g]? = some (.cells cs t fr)) (hu : P.underlying ty = some d) (hd : (match d with | .struct _ | .array _ _ => true | _ => false) = true) (hi : (P.info? ty).map (·.size) = some cs.size)
  (hp' : tmps.getD u undef = .pointer (some ⟨g', 0, none⟩)) (hl : (loadVar ty' ⟨g', 0, none⟩).run P w = .ok v w) :
  (results fn tmps).run P w = .ok (.tuple #[.agg cs, v]) w := by
 have e : (results fn tmps).run P w = ((asAddr (tmps.getD p undef)).run P w).andThen fun a w₁ => ((loadVar ty a).run P w₁).andThen fun x w₂ => ((asAddr (tmps.getD u undef)).run P w₂).andThen fun a2 w₃ => ((loadVar ty' a2).run P w₃).andThen fun y w₄ => .ok (.tuple #[x, y]) w₄ := by
  simp only [results, h];simp [Sem.run_bind, Result.andThen]
 rw [e, hp, hp'];simp only [asAddr, Sem.run_pure, Result.andThen_ok, run_loadVar_row w g t ty cs fr d hg hu hd hi, hl]
theorem ry : (Tryz.prog.info? 185).map (·.size) = some 2 := by kernel_rfl
theorem vg {w : World} {g : Nat} {b : Bool} (h : w.heap[g]? = some (.cells #[.bool b] 4 (0, 0))) : (loadVar 4 ⟨g, 0, none⟩).run Tryz.prog w = .ok (.bool b) w := by
 have hc : w.cell? ⟨g, 0, none⟩ = some (.bool b) := by rw [cell_of_row _ _ _ _ _ _ h]; rfl
 simp [go_sem, hc]
theorem Gn.stored {B : Nat} {fv c0 c1 : Value} {b b' : Bool} {W : World} (h : Gn B fv W c0 c1 b) (d0 d1 : Value) : Gn B fv ((W.setRow (B + 1) #[d0, d1]).setCell ⟨B + 2, 0, none⟩ (.bool b')) d0 d1 b' := by
 refine ⟨(heap_setCell_other _ ⟨B + 2, 0, none⟩ B _ (by show _ ≠ B + 2; omega)).trans ((dL _ (by omega)).trans h.h), (heap_setCell_other _ ⟨B + 2, 0, none⟩ (B + 1) _ (by show _ ≠ B + 2; omega)).trans (dH _ h.r), ?_⟩;exact heap_setCell_same _ (B + 2) 0 _ _ _ ((dL _ (by omega)).trans h.is)
theorem oI {B : Nat} (W : World) (d : Array Value) (v : Value) : Below B W ((W.setRow (B + 1) d).setCell ⟨B + 2, 0, none⟩ v) :=
 ⟨rfl, rfl, rfl, by rw [World.size_setCell]; simp, fun k hk => (heap_setCell_other _ ⟨B + 2, 0, none⟩ k _ (by show _ ≠ B + 2; omega)).trans (dL _ (by omega))⟩
theorem oz {B : Nat} (W : World) (d : Array Value) (v : Value) : Aside (B + 3) W ((W.setRow (B + 1) d).setCell ⟨B + 2, 0, none⟩ v) :=
 ⟨by rw [World.size_setCell]; simp, fun k hk _ => (heap_setCell_other _ ⟨B + 2, 0, none⟩ k _ (by show _ ≠ B + 2; omega)).trans (dL _ (by omega))⟩
set_option maxHeartbeats 4000000 in
theorem wZ (M S : Nat) (w : World) (J Jx : Nat → World → Prop) (hJ : Stable w.heap.size J) (hJx : Stable w.heap.size Jx) (h0 : J 0 w)
  (hc : ∀ k W, k < 10 → J k W → w.heap.size ≤ W.heap.size → Calls Tryz.prog 110 #[rl k, .pointer (some ⟨M, 0, none⟩), .pointer (some ⟨S, 0, none⟩)] W fun e W' => (e = .returned (.bool false) ∧ J (k + 1) W' ∨ e = .returned (.bool true) ∧ Jx k W') ∧ Aside w.heap.size W W') :
  Calls Tryz.prog 109 #[.func (.func 110) #[] #[.pointer (some ⟨M, 0, none⟩), .pointer (some ⟨S, 0, none⟩)]] w fun e w' => (e = .returned (.tuple #[.agg #[.string ⟨#[]⟩, .nilFunc], .bool false]) ∧ J 10 w') ∨ ∃ k, k < 10 ∧ e = .returned (.tuple #[.agg #[.string (nm k), .func (.func (fo k)) #[] #[]], .bool true]) ∧ Jx k w' := by
 refine (callsIn_wide (n := 3)).1 ?_;refine callsIn_of_wp_marks Tryz.func109 rfl trivial ?_ rfl;simp only [Tryz.ntmps109, List.size_toArray, List.length_cons, List.length_nil, Nat.reduceAdd, Nat.reduceSub, Array.replicate_succ, Array.replicate_zero, List.push_toArray, List.append_toArray, List.nil_append, List.cons_append]
 gi_wp2_with (refine ⟨trivial, ?_⟩; gi_at_call 158; refine (callsIn_wide.2 (JL _)).mono ?_; rintro e w1 ⟨rfl, rfl⟩)
 have hF0 : Gn w.heap.size (.func (.func 110) #[] #[.pointer (some ⟨M, 0, none⟩), .pointer (some ⟨S, 0, none⟩)]) (((w.alloc (.cells #[.func (.func 110) #[] #[.pointer (some ⟨M, 0, none⟩), .pointer (some ⟨S, 0, none⟩)]] 188)).alloc (.cells #[.string ⟨#[]⟩, .nilFunc] 185)).alloc (.cells #[.bool false] 4)) (.string ⟨#[]⟩) .nilFunc false :=
  ⟨(NS w _ _ _).1, (NS w _ _ _).2.1, (NS w _ _ _).2.2⟩
 have hb0 : Bl w (((w.alloc (.cells #[.func (.func 110) #[] #[.pointer (some ⟨M, 0, none⟩), .pointer (some ⟨S, 0, none⟩)]] 188)).alloc (.cells #[.string ⟨#[]⟩, .nilFunc] 185)).alloc (.cells #[.bool false] 4)) :=
  (((Below.refl _ w).alloc (Nat.le_refl _) _).alloc (by simp) _).alloc (by simp; omega) _
 have hz0 : (((w.alloc (.cells #[.func (.func 110) #[] #[.pointer (some ⟨M, 0, none⟩), .pointer (some ⟨S, 0, none⟩)]] 188)).alloc (.cells #[.string ⟨#[]⟩, .nilFunc] 185)).alloc (.cells #[.bool false] 4)).heap.size = w.heap.size + 3 := by simp
 generalize ((w.alloc (.cells #[.func (.func 110) #[] #[.pointer (some ⟨M, 0, none⟩), .pointer (some ⟨S, 0, none⟩)]] 188)).alloc (.cells #[.string ⟨#[]⟩, .nilFunc] 185)).alloc (.cells #[.bool false] 4) = W0 at hF0 hb0 hz0 ⊢;obtain ⟨fv, hfv⟩ : ∃ fv, Hid (fv = Value.func (.func 110) #[] #[.pointer (some ⟨M, 0, none⟩), .pointer (some ⟨S, 0, none⟩)]) := ⟨_, hid rfl⟩;rw [← hfv.out] at hF0;have hHJ := hid hJ;have hHX := hid hJx;refine qK (hit := EG) (fun C hb => trivial) rfl (enters_of Tryz.func195 (by kernel_rfl) rfl) (fun _ => rfl)
  (fun k A => J k A ∧ Gn w.heap.size fv A (.string ⟨#[]⟩) .nilFunc false ∧ w.heap.size + 3 ≤ A.heap.size) (fun c k A => c = .ret ∧ k < 10 ∧ Jx k A ∧ Gn w.heap.size fv A (.string (nm k)) (lH k) true)
  (fun k A C h hb => ⟨hHJ.out k A C h.1 (hb.mono (by omega)), h.2.1.keep (by rw [← hz0]; exact hb), Nat.le_trans h.2.2 hb.size⟩)
  (fun c k A C h hb => ⟨h.1, h.2.1, hHX.out k A C h.2.2.1 (hb.mono (by omega)), h.2.2.2.keep (by rw [← hz0]; exact hb)⟩)
  ⟨hHJ.out 0 _ _ h0 hb0, hF0, by omega⟩ ?round ?done ?stop
 case round =>
  rintro l2 k W1 hk ⟨hj, hF, hs⟩ hle hlt hz;have ha1 : Below (w.heap.size + 3) W1 (W1.alloc (.cells #[.string (nm k), .func (.func (fo k)) #[] #[]] 185)) := (Below.refl _ W1).alloc hs _;have hn1 : (W1.alloc (.cells #[.string (nm k), .func (.func (fo k)) #[] #[]] 185)).heap[W1.heap.size]? = some (.cells #[.string (nm k), .func (.func (fo k)) #[] #[]] 185) := World.alloc_heap_new W1 _;unfold rl lH;gi_wp2;refine ⟨Aside.alloc _ _ _, ⟨hHJ.out k _ _ hj (ha1.mono (by omega)), hF.keep ha1, by simp; omega⟩, fun o' => ?_⟩;have hj2 := hHJ.out k _ _ (hHJ.out k _ _ hj (ha1.mono (by omega))) (aY (l := l2) _ o' (by omega));have hF2 := (hF.keep ha1).keep (aY (l := l2) _ o' (by omega));have hn2 : ((W1.alloc (.cells #[.string (nm k), .func (.func (fo k)) #[] #[]] 185)).putObj l2 o').heap[W1.heap.size]? = some (.cells #[.string (nm k), .func (.func (fo k)) #[] #[]] 185) := (World.putObj_heap_other (by omega)).trans hn1;have hz2 : W1.heap.size < ((W1.alloc (.cells #[.string (nm k), .func (.func (fo k)) #[] #[]] 185)).putObj l2 o').heap.size := by simp
  generalize (W1.alloc (.cells #[.string (nm k), .func (.func (fo k)) #[] #[]] 185)).putObj l2 o' = W2 at hj2 hF2 hn2 hz2 ⊢;clear hn1 ha1 hF hj;have hcf : W2.cell? ⟨w.heap.size, 0, none⟩ = some (.func (.func 110) #[] #[.pointer (some ⟨M, 0, none⟩), .pointer (some ⟨S, 0, none⟩)]) := by rw [cell_of_row _ _ _ _ _ _ hF2.h, hfv.out]; rfl
  have r0 : W2.cell? ⟨W1.heap.size, 0, none⟩ = some (.string (nm k)) := by rw [cell_of_row _ _ _ _ _ _ hn2]; rfl
  have r1 : W2.cell? ⟨W1.heap.size, 1, none⟩ = some (.func (.func (fo k)) #[] #[]) := by rw [cell_of_row _ _ _ _ _ _ hn2]; rfl
  have hcc := hc k W2 hk hj2 (by omega);unfold rl lH at hcc;gi_wp2;refine ⟨trivial, rfl, ?_⟩
  gi_at_call 110
  refine (CallsIn.inRound _ (callsIn_wide.2 hcc)).mono ?_;clear hcf r0 r1 hcc;rintro e W4 ⟨⟨rfl, hj4⟩ | ⟨rfl, hx4⟩, hA4⟩
  ·have hF4 := hF2.aside hA4
   have hs4 := hA4.1;gi_wp2;exact ⟨hA4.mono (by omega), hj4, hF4, by omega⟩
  ·have hF4 := hF2.aside hA4
   have hs4 := hA4.1;have hn4 := (hA4.2 _ (by omega) hz2).trans hn2;have r0 : W4.cell? ⟨W1.heap.size, 0, none⟩ = some (.string (nm k)) := by rw [cell_of_row _ _ _ _ _ _ hn4]; rfl
   have r1 : W4.cell? ⟨W1.heap.size, 1, none⟩ = some (.func (.func (fo k)) #[] #[]) := by rw [cell_of_row _ _ _ _ _ _ hn4]; rfl
   have f2 : (W4.setRow (w.heap.size + 1) #[.string (nm k), .func (.func (fo k)) #[] #[]]).frozen? ⟨w.heap.size + 1 + 1, 0, none⟩ = false := frozen_of_row _ _ 0 _ _ ((dL _ (by omega)).trans hF4.is);have g2 : (W4.setRow (w.heap.size + 1) #[.string (nm k), .func (.func (fo k)) #[] #[]]).cell? ⟨w.heap.size + 1 + 1, 0, none⟩ = some (.bool false) := (cell_of_row _ _ 0 _ _ _ ((dL _ (by omega)).trans hF4.is)).trans rfl;have o1 : (#[Value.string (nm k), Value.func (.func (fo k)) #[] #[]] : Array Value).all (·.oneCell') = true := by simp [Value.oneCell']
   gi_wp2_with (refine gD rfl 185 _ _ rfl (w.heap.size + 1) #[.string (nm k), .func (.func (fo k)) #[] #[]] rfl rfl 185 _ hF4.r ry rfl o1 ?_)
   refine ⟨hA4.mono (by omega) |>.trans ?_, rfl, hk, hHX.out k _ _ hx4 (oI _ _ _), hF4.stored _ _⟩;rw [hz0];exact oz _ _ _
 case done =>
  rintro W3 ⟨hj, hF, hs⟩ hz hd;rw [hz0] at hd hz ⊢;have f2 : (W3.setRow (w.heap.size + 1) #[.string ⟨#[]⟩, .nilFunc]).frozen? ⟨w.heap.size + 1 + 1, 0, none⟩ = false := frozen_of_row _ _ 0 _ _ ((dL _ (by omega)).trans hF.is);have g2 : (W3.setRow (w.heap.size + 1) #[.string ⟨#[]⟩, .nilFunc]).cell? ⟨w.heap.size + 1 + 1, 0, none⟩ = some (.bool false) := (cell_of_row _ _ 0 _ _ _ ((dL _ (by omega)).trans hF.is)).trans rfl
  gi_wp2_with (refine gD rfl 185 _ _ rfl (w.heap.size + 1) #[.string ⟨#[]⟩, .nilFunc] rfl rfl 185 _ hF.r ry rfl (by simp [Value.oneCell']) ?_)
  have hF4 := hF.stored (b' := false) (.string ⟨#[]⟩) .nilFunc;have hb4 := oI (B := w.heap.size) W3 #[.string ⟨#[]⟩, .nilFunc] (.bool false);have hd4 : ((W3.setRow (w.heap.size + 1) #[.string ⟨#[]⟩, .nilFunc]).setCell ⟨w.heap.size + 1 + 1, 0, none⟩ (.bool false)).heap[w.heap.size + 3]? = some (.deferred (some [])) := ((oz (B := w.heap.size) W3 #[.string ⟨#[]⟩, .nilFunc] (.bool false)).2 _ (by omega) (by omega)).trans hd;refine ⟨by simp, .inl ⟨_, _, rfl, run_takeDeferred hd4, ?_⟩⟩;have hF5 : Gn w.heap.size fv (((W3.setRow (w.heap.size + 1) #[.string ⟨#[]⟩, .nilFunc]).setCell ⟨w.heap.size + 1 + 1, 0, none⟩ (.bool false)).putObj (w.heap.size + 3) (.deferred none)) (.string ⟨#[]⟩) .nilFunc false := hF4.keep (aY (l := w.heap.size + 3) _ (.deferred none) (by omega));exact ⟨_, oD rfl _ _ (w.heap.size + 1) (w.heap.size + 1 + 1) 185 #[.string ⟨#[]⟩, .nilFunc] (0, 0) _ (.bool false) rfl hF5.r Tryz.underlying185 rfl ry rfl (vg hF5.is), .inl ⟨rfl, hHJ.out _ _ _ (hHJ.out _ _ _ hj hb4) (aY _ _ (by omega))⟩⟩
 case stop =>
  rintro c k W3 ⟨rfl, hk, hj, hF⟩ hz hd;gi_wp2;refine ⟨by simp, .inl ⟨_, _, rfl, run_takeDeferred hd, ?_⟩⟩;have hF5 := hF.keep (aY (l := W0.heap.size) W3 (.deferred none) (by omega));refine ⟨_, oD rfl _ _ (w.heap.size + 1) (w.heap.size + 1 + 1) 185 #[.string (nm k), lH k] (0, 0) _ (.bool true) rfl hF5.r Tryz.underlying185 rfl ry rfl (vg hF5.is), .inr ⟨k, hk, rfl, hHX.out k _ _ hj (aY _ _ (by omega))⟩⟩
end Go.Proofs.YtlkolghiknbbfaaGreatDoor
namespace Go.Proofs.YtlkolghiknbbfaaGreatDoor
open Go.RowKit Go.Shelf
def nE (stop e1 e2 k : Nat) : Nat × Nat := if k = stop then (e1, e2) else (0, 0)
def whL (S R M gen bound : Nat) (a : Option Addr) (n c : Nat) (x y : Nat) : List As := [MR S x y, aP R #[.int .i64 0, .int .i64 0] 39, aP M #[.int .u32 gen, .int .u32 bound, .slice a n c] 34]
theorem FL (gen bound : Nat) (a : Option Addr) (n c stop e1 e2 : Nat) (hst : stop ≤ 10) (he : e1 ≠ 0) (w : World)
  (cA : ∀ k, k < 10 → k ≤ stop → ∀ W, Bl w W → Calls Tryz.prog (fo k) #[NB gen bound a n c] W fun e w' => e = .returned (.agg #[.int .i64 (nE stop e1 e2 k).1, .int .i64 (nE stop e1 e2 k).2]) ∧ Bl W w') :
  Calls Tryz.prog 72 #[NB gen bound a n c] w fun e w' => ∃ s, e = .returned (.tuple #[.string s, .agg #[.int .i64 (if stop = 10 then 0 else e1 : Nat), .int .i64 (if stop = 10 then 0 else e2 : Nat)]]) ∧ Bl w w' := by
 have HO := Own.nil w;unfold NB;obtain ⟨x, hx⟩ : ∃ x, Hid ((if stop = 10 then 0 else e1) = x) := ⟨_, hid rfl⟩;obtain ⟨y, hy⟩ : ∃ y, Hid ((if stop = 10 then 0 else e2) = y) := ⟨_, hid rfl⟩;rw [hx.out, hy.out];have HC := hid cA;clear cA;go_enter Tryz.func72, Tryz.ntmps72;go_wp2_with (first | (((with_reducible refine aB HO ?_); intro g hg; rw [← hg.out]; clear hg); clear HO; (try clear kk); intro W' HO kk));rename_i gM V1 gR V2 K1 a1 K2 a2;obtain ⟨gS, rfl⟩ : ∃ q, q = g := ⟨_, rfl⟩;have H0 : Own aK w (whL gS gR gM gen bound a n c 0 0) W' := HO;clear HO;(try clear kk);have lS := H0.le 0 rfl;have zS := H0.lt 0 rfl;have hne : gM ≠ gS := fun e => H0.ne 0 2 rfl rfl (by omega) e.symm
 have hdom : ∀ x y, ∀ A ∈ whL gS gR gM gen bound a n c x y, ∀ k, A.dom k → k < W'.heap.size := fun x y A hA k hk => by
  rcases List.mem_cons.1 hA with rfl | hA
  ·cases hk; exact zS
  ·exact (H0.low A (List.mem_cons_of_mem _ hA) k hk).2
 go_at_call 109;refine (wZ gM gS W' (fun k W => k ≤ stop ∧ Own aK w (whL gS gR gM gen bound a n c 0 0) W) (fun k W => k = stop ∧ Own aK w (whL gS gR gM gen bound a n c e1 e2) W) (fun k A C h hb => ⟨h.1, h.2.upto (hdom 0 0) H0.size hb⟩) (fun k A C h hb => ⟨h.1, h.2.upto (hdom e1 e2) H0.size hb⟩) ⟨Nat.zero_le _, H0⟩ (fun k W hk hj hsz => ?_)).mono ?_
 ·obtain ⟨hkk, hW⟩ := hj
  refine (Dv k hk gen bound a n c (nE stop e1 e2 k).1 (nE stop e1 e2 k).2 0 0 gS gM W (hW.blk 0 rfl) (hW.blk 2 rfl) hne (fun L W2 h2 => HC.out k hk hkk W2 ?_)).mono ?_
  ·have hb := hW.below
   exact ⟨h2.os.trans hb.os, h2.tape.trans hb.tape, h2.output.trans hb.output, Nat.le_trans hb.size h2.size, fun q hq => (h2.keep q (Nat.lt_of_lt_of_le hq hb.size) (fun e => by omega)).trans (hb.block q hq)⟩
  ·rintro e W3 ⟨rfl, hs⟩
   have h3 := hW.step 0 rfl hs;have hA : Aside W'.heap.size W W3 := ⟨hs.size, fun b hb hlt => hs.other b hlt (fun hd => by have hd : b = gS := hd; omega)⟩;unfold nE at h3 ⊢;by_cases q : k = stop
   ·rw [if_pos q] at h3 ⊢
    refine ⟨.inr ⟨?_, q, h3⟩, hA⟩;have : ((e1 : Int) == 0) = false := by rw [beq_eq_false_iff_ne]; omega
    rw [this]; rfl
   ·rw [if_neg q] at h3 ⊢
    exact ⟨.inl ⟨rfl, by omega, h3⟩, hA⟩
 clear H0 lS zS hdom HC;rintro e W3 (⟨rfl, hk, HO⟩ | ⟨k, hk, rfl, rfl, HO⟩)
 ·have hx0 : x = 0 := by have := hx.out; rw [if_pos (by omega)] at this; exact this.symm
  have hy0 : y = 0 := by have := hy.out; rw [if_pos (by omega)] at this; exact this.symm
  subst hx0 hy0;clear hx hy hk hst he hne;unfold whL MR at HO;(try simp only [yD] at HO); have kk := HO.kk;go_wp2_with (first | ((first | ((with_reducible refine aB HO ?_); intro g hg; rw [← hg.out]; clear hg) | (with_reducible refine ah HO ?_) | (refine ay 185 HO ?_)); clear HO; (try clear kk); intro W' HO kk));have n5 : gS ≠ gR := HO.ne 1 2 rfl rfl (by omega);have z5 := HO.lt 1 rfl;have z3 := HO.lt 2 rfl;go_region;go_wp2_with fail;have H := ((HO.set 2 0 (.int .i64 (0 : Nat)) rfl).set 2 1 (.int .i64 (0 : Nat)) rfl).drew;refine bodyPost_ret_by (bU rfl _ _ _ 39 #[.int .i64 (0 : Nat), .int .i64 (0 : Nat)] _ _ rfl (H.blk 2 rfl) Tryz.underlying39 rfl aC) rfl ?_;exact ⟨_, rfl, H.below⟩
 ·have hx0 : x = e1 := by have := hx.out; rw [if_neg (by omega)] at this; exact this.symm
  have hy0 : y = e2 := by have := hy.out; rw [if_neg (by omega)] at this; exact this.symm
  subst hx0 hy0;clear hx hy hst he hne;unfold whL MR at HO;(try simp only [yD] at HO); have kk := HO.kk;go_wp2_with (first | ((first | ((with_reducible refine aB HO ?_); intro g hg; rw [← hg.out]; clear hg) | (with_reducible refine ah HO ?_) | (refine ay 185 HO ?_)); clear HO; (try clear kk); intro W' HO kk));have n5 : gS ≠ gR := HO.ne 1 2 rfl rfl (by omega);have z5 := HO.lt 1 rfl;have z3 := HO.lt 2 rfl;go_region;go_wp2_with fail;have H := ((HO.set 2 0 (.int .i64 (x : Nat)) rfl).set 2 1 (.int .i64 (y : Nat)) rfl).drew;refine bodyPost_ret_by (bU rfl _ _ _ 39 #[.int .i64 (x : Nat), .int .i64 (y : Nat)] _ _ rfl (H.blk 2 rfl) Tryz.underlying39 rfl aC) rfl ?_;exact ⟨_, rfl, H.below⟩
end Go.Proofs.YtlkolghiknbbfaaGreatDoor
namespace Go.Proofs.YtlkolghiknbbfaaGreatDoor
open Go.RowKit
theorem Jp (gen bound : Nat) (a : Option Addr) (n c e1 e2 : Nat) (w : World) (cF : ∀ W, Bl w W → Calls Tryz.prog 87 #[.agg #[.int .u32 gen, .int .u32 bound, .slice a n c]] W fun e w' => (∃ v, e = .returned (.tuple #[v, .agg #[.int .i64 e1, .int .i64 e2]])) ∧ Bl W w') :
  Qc 234 #[.agg #[.int .u32 gen, .int .u32 bound, .slice a n c]] w (.agg #[.int .i64 e1, .int .i64 e2]) := by
 have HO := Own.nil w;go_enter Tryz.func234, Tryz.ntmps234;go_wp2_with (first | ((first | ((with_reducible refine aB HO ?_); intro g hg; rw [← hg.out]; clear hg) | (with_reducible refine ah HO ?_) | (refine ay 39 HO ?_)); clear HO; (try clear kk); intro W' HO kk) | (refine bG 34 HO Tryz.underlying34 ?_) | (refine bG 39 HO Tryz.underlying39 ?_) | (go_at_call 87; (with_reducible refine (cF _ HO.below).mono ?_); rintro e w1 ⟨⟨v, rfl⟩, hn1⟩; replace HO := HO.then hn1; clear hn1; (try clear kk); have kk := HO.kk));refine bodyPost_ret_by (bF rfl _ _ _ 39 #[.int .i64 e1, .int .i64 e2] _ _ rfl (HO.blk 1 rfl) Tryz.underlying39 rfl aC) rfl ?_;exact ⟨rfl, HO.below⟩
theorem Ka (gen bound : Nat) (a : Option Addr) (n c e1 e2 : Nat) (w : World) (cF : ∀ W, Bl w W → Calls Tryz.prog 62 #[.agg #[.int .u32 gen, .int .u32 bound, .slice a n c]] W fun e w' => (∃ v, e = .returned (.tuple #[v, .agg #[.int .i64 e1, .int .i64 e2]])) ∧ Bl W w') :
  Qc 235 #[.agg #[.int .u32 gen, .int .u32 bound, .slice a n c]] w (.agg #[.int .i64 e1, .int .i64 e2]) := by
 have HO := Own.nil w;go_enter Tryz.func235, Tryz.ntmps235;go_wp2_with (first | ((first | ((with_reducible refine aB HO ?_); intro g hg; rw [← hg.out]; clear hg) | (with_reducible refine ah HO ?_) | (refine ay 39 HO ?_)); clear HO; (try clear kk); intro W' HO kk) | (refine bG 34 HO Tryz.underlying34 ?_) | (refine bG 39 HO Tryz.underlying39 ?_) | (go_at_call 62; (with_reducible refine (cF _ HO.below).mono ?_); rintro e w1 ⟨⟨v, rfl⟩, hn1⟩; replace HO := HO.then hn1; clear hn1; (try clear kk); have kk := HO.kk));refine bodyPost_ret_by (bF rfl _ _ _ 39 #[.int .i64 e1, .int .i64 e2] _ _ rfl (HO.blk 1 rfl) Tryz.underlying39 rfl aC) rfl ?_;exact ⟨rfl, HO.below⟩
theorem JG (gen bound : Nat) (a : Option Addr) (n c e1 e2 : Nat) (w : World) (cF : ∀ W, Bl w W → Calls Tryz.prog 63 #[.agg #[.int .u32 gen, .int .u32 bound, .slice a n c]] W fun e w' => (∃ v, e = .returned (.tuple #[v, .agg #[.int .i64 e1, .int .i64 e2]])) ∧ Bl W w') :
  Qc 237 #[.agg #[.int .u32 gen, .int .u32 bound, .slice a n c]] w (.agg #[.int .i64 e1, .int .i64 e2]) := by
 have HO := Own.nil w;go_enter Tryz.func237, Tryz.ntmps237;go_wp2_with (first | ((first | ((with_reducible refine aB HO ?_); intro g hg; rw [← hg.out]; clear hg) | (with_reducible refine ah HO ?_) | (refine ay 39 HO ?_)); clear HO; (try clear kk); intro W' HO kk) | (refine bG 34 HO Tryz.underlying34 ?_) | (refine bG 39 HO Tryz.underlying39 ?_) | (go_at_call 63; (with_reducible refine (cF _ HO.below).mono ?_); rintro e w1 ⟨⟨v, rfl⟩, hn1⟩; replace HO := HO.then hn1; clear hn1; (try clear kk); have kk := HO.kk));refine bodyPost_ret_by (bF rfl _ _ _ 39 #[.int .i64 e1, .int .i64 e2] _ _ rfl (HO.blk 1 rfl) Tryz.underlying39 rfl aC) rfl ?_;exact ⟨rfl, HO.below⟩
theorem uI (gen bound : Nat) (a : Option Addr) (n c e1 e2 : Nat) (w : World) (cF : ∀ W, Bl w W → Calls Tryz.prog 8 #[.agg #[.int .u32 gen, .int .u32 bound, .slice a n c]] W fun e w' => (∃ v, e = .returned (.tuple #[v, .agg #[.int .i64 e1, .int .i64 e2]])) ∧ Bl W w') :
  Qc 240 #[.agg #[.int .u32 gen, .int .u32 bound, .slice a n c]] w (.agg #[.int .i64 e1, .int .i64 e2]) := by
 have HO := Own.nil w;go_enter Tryz.func240, Tryz.ntmps240;go_wp2_with (first | ((first | ((with_reducible refine aB HO ?_); intro g hg; rw [← hg.out]; clear hg) | (with_reducible refine ah HO ?_) | (refine ay 39 HO ?_)); clear HO; (try clear kk); intro W' HO kk) | (refine bG 34 HO Tryz.underlying34 ?_) | (refine bG 39 HO Tryz.underlying39 ?_) | (go_at_call 8; (with_reducible refine (cF _ HO.below).mono ?_); rintro e w1 ⟨⟨v, rfl⟩, hn1⟩; replace HO := HO.then hn1; clear hn1; (try clear kk); have kk := HO.kk));refine bodyPost_ret_by (bF rfl _ _ _ 39 #[.int .i64 e1, .int .i64 e2] _ _ rfl (HO.blk 1 rfl) Tryz.underlying39 rfl aC) rfl ?_;exact ⟨rfl, HO.below⟩
theorem NG : (Tryz.prog.info? 79).map (·.size) = some 3 := by kernel_rfl
theorem uD (gen bound : Nat) (a : Option Addr) (n c e1 e2 : Nat) (w : World)
  (cW : ∀ W, Bl w W → Calls Tryz.prog 72 #[.agg #[.int .u32 gen, .int .u32 bound, .slice a n c]] W fun e w' => ∃ s, e = .returned (.tuple #[.string s, .agg #[.int .i64 e1, .int .i64 e2]]) ∧ Bl W w') :
  Qc 23 #[.agg #[.int .u32 gen, .int .u32 bound, .slice a n c]] w (.agg #[.bool ((e1 : Int) == 0), .int .i64 e1, .int .i64 e2]) := by
 have HO := Own.nil w;go_enter Tryz.func23, Tryz.ntmps23;go_wp2_with (first | ((first | ((with_reducible refine aB HO ?_); intro g hg; rw [← hg.out]; clear hg) | (with_reducible refine ah HO ?_) | (refine ay 39 HO ?_) | (refine ay 79 HO ?_)); clear HO; (try clear kk); intro W' HO kk) | (refine bG 34 HO Tryz.underlying34 ?_) | (refine bG 39 HO Tryz.underlying39 ?_) | (go_at_call 72; (with_reducible refine (cW _ HO.below).mono ?_); rintro e w1 ⟨s, rfl, hn1⟩; replace HO := HO.then hn1; clear hn1; (try clear kk); have kk := HO.kk));refine bodyPost_ret_by (bF rfl _ _ _ 79 #[.bool ((e1 : Int) == 0), .int .i64 e1, .int .i64 e2] _ _ rfl (HO.blk 1 rfl) Tryz.underlying79 rfl NG) rfl ?_;exact ⟨rfl, HO.below⟩
end Go.Proofs.YtlkolghiknbbfaaGreatDoor
