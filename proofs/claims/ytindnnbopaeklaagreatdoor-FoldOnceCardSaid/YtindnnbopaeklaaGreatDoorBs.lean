/- Check: the list of the checks; the iterator over it. -/
import Derived.Test.YtindnnbopaeklaaGreatDoorAa
import Derived.Lib.Hide
import Derived.Laws.EntriesVeiled
import Derived.Test.YtindnnbopaeklaaGreatDoorAf
import Derived.Test.YtindnnbopaeklaaGreatDoorAe
namespace Go.Proofs.YtindnnbopaeklaaGreatDoor
set_option linter.unusedVariables false
open Go.RowKit Go.Shelf
attribute [local go_sem] Oper.semAt_some
def nm : Nat → ByteArray
 | 0 => ⟨#[115, 104, 97, 112, 101]⟩ | 1 => ⟨#[108, 97, 121, 111, 117, 116]⟩ | 2 => ⟨#[105, 100, 115]⟩ | 3 => ⟨#[116, 121, 112, 101, 115]⟩ | 4 => ⟨#[99, 111, 110, 115, 116, 115]⟩
 | 5 => ⟨#[110, 101, 115, 116]⟩ | 6 => ⟨#[99, 97, 108, 108, 115]⟩ | 7 => ⟨#[116, 121, 112, 105, 110, 103]⟩ | 8 => ⟨#[102, 108, 111, 119]⟩ | _ => ⟨#[102, 97, 99, 101]⟩
def fo : Nat → Nat
 | 0 => 22 | 1 => 168 | 2 => 89 | 3 => 169 | 4 => 170
 | 5 => 171 | 6 => 172 | 7 => 174 | 8 => 175 | _ => 176
def fval (k : Nat) : Value := .func (.func (fo k)) #[] #[]
def ruleCells : Array Value := #[.string (nm 0), fval 0, .string (nm 1), fval 1, .string (nm 2), fval 2, .string (nm 3), fval 3, .string (nm 4), fval 4, .string (nm 5), fval 5, .string (nm 6), fval 6, .string (nm 7), fval 7, .string (nm 8), fval 8, .string (nm 9), fval 9]
theorem rules_own (w : World) : Calls Tryz.prog 127 #[] w fun e w' => e = .returned (.slice (some ⟨w.heap.size, 0, none⟩) 10 10) ∧ w' = w.alloc (.cells ruleCells 118) := by
 go_enter Tryz.func127, Tryz.ntmps127
 go_wp2
 go_ret
 exact ⟨rfl, rfl⟩
theorem each_own (w : World) : Calls Tryz.prog 88 #[] w fun e w' => e = .returned (.func (.func 126) #[] #[]) ∧ w' = w := by
 go_enter Tryz.func88, Tryz.ntmps88
 go_wp2
 go_ret
 exact ⟨rfl, rfl⟩
theorem rule_name (k : Nat) (hk : k < 10) : ruleCells[k * 2]? = some (.string (nm k)) := by
 match k, hk with
 | 0, _ => rfl | 1, _ => rfl | 2, _ => rfl | 3, _ => rfl | 4, _ => rfl | 5, _ => rfl | 6, _ => rfl | 7, _ => rfl | 8, _ => rfl | 9, _ => rfl
theorem rule_fn (k : Nat) (hk : k < 10) : ruleCells[k * 2 + 1]? = some (fval k) := by
 match k, hk with
 | 0, _ => rfl | 1, _ => rfl | 2, _ => rfl | 3, _ => rfl | 4, _ => rfl | 5, _ => rfl | 6, _ => rfl | 7, _ => rfl | 8, _ => rfl | 9, _ => rfl
def rl (k : Nat) : Value := .agg #[.string (nm k), fval k]
set_option maxHeartbeats 1000000 in
theorem each_iter : IterA 126 #[] (fun _ => True) (fun k => #[rl k]) 10 := by
 intro l J Jx W _ hl hJ hJx hY h0
 show Calls _ _ #[.func (.yield l) #[] #[]] W _
 refine (callsIn_wide (n := 1)).1 ?_
 refine callsIn_of_wp Tryz.func126 rfl trivial ?_ rfl
 simp only [Tryz.ntmps126, List.size_toArray, List.length_cons, List.length_nil, Nat.reduceAdd, Nat.reduceSub, Array.replicate_succ, Array.replicate_zero, List.push_toArray, List.append_toArray, List.nil_append, List.cons_append]
 gi_wp2_with (refine ⟨trivial, ?_⟩; gi_at_call 127; refine (callsIn_wide.2 (rules_own _)).mono ?_; rintro e w1 ⟨rfl, rfl⟩)
 have hr0 : (W.alloc (.cells ruleCells 118)).heap[W.heap.size]? = some (.cells ruleCells 118) := World.alloc_heap_new W _
 have hJ0 : J 0 (W.alloc (.cells ruleCells 118)) := hJ 0 _ _ h0 ((Below.refl _ W).alloc (Nat.le_refl _) _)
 have hA0 : Aside W.heap.size W (W.alloc (.cells ruleCells 118)) := Aside.alloc _ _ _
 have hs0 : W.heap.size < (W.alloc (.cells ruleCells 118)).heap.size := by simp
 generalize W.alloc (.cells ruleCells 118) = W0 at hr0 hJ0 hA0 hs0 ⊢
 gi_loopw [6] (fun i wr => ∃ k : Nat, k ≤ 10 ∧ i = .int .i64 k ∧ J k wr ∧ wr.heap[W.heap.size]? = some (.cells ruleCells 118) ∧ Aside W.heap.size W wr) (fun i _ => 10 - (intOf i).toNat)
 case atStart => exact ⟨0, by omega, rfl, hJ0, hr0, hA0⟩
 case round =>
  clear hr0 hJ0 hA0 hs0
  obtain ⟨k, hk, rfl, hJk, hrk, hAk⟩ := hrel
  have hsz := hAk.1
  by_cases hlt : k < 10
  ·have d1 : wr.cell? ⟨W.heap.size, k * 2, none⟩ = some (.string (nm k)) := by rw [cell_of_row wr _ _ _ _ _ hrk]; exact rule_name k hlt
   have d2 : wr.cell? ⟨W.heap.size, k * 2 + 1, none⟩ = some (.func (.func (fo k)) #[] #[]) := by rw [cell_of_row wr _ _ _ _ _ hrk]; exact rule_fn k hlt
   have hY1 := hY k (wr.alloc (.cells #[.string (nm k), .func (.func (fo k)) #[] #[]] 118)) hlt (hJ k _ _ hJk ((Below.refl _ wr).alloc (by omega) _)) (by simp; omega)
   unfold rl fval at hY1
   obtain ⟨fn, tmps, assign, body, hy, hR⟩ := hY1
   have hlr := (Array.getElem?_eq_some_iff.1 hrk).1
   have HRK := Lib.hid hrk
   clear hrk
   gi_wp2
   refine hR.mono ?_
   rintro e W3 ⟨⟨rfl, hJ3⟩ | ⟨rfl, hJx3⟩, hA3⟩
   ·gi_wp2
    go_roundw
    case rel => exact ⟨k + 1, by omega, by go_num, hJ3, (hA3.2 _ (Nat.le_refl _) (by simp; omega)).trans ((Below.heap_alloc wr _ _ (by omega)).trans HRK.out), hAk.trans ((Aside.alloc _ _ _).trans hA3)⟩
    case measure => simp [intOf]; omega
   ·gi_wp2
    refine bodyPost_ret (results_none rfl _ _ _) rfl ?_
    exact ⟨⟨_, rfl⟩, .inr ⟨k, hJx3⟩, hAk.trans ((Aside.alloc _ _ _).trans hA3)⟩
  ·obtain rfl : k = 10 := by omega
   gi_wp2
   go_end0
   exact ⟨⟨_, rfl⟩, .inl hJk, hAk⟩
end Go.Proofs.YtindnnbopaeklaaGreatDoor
namespace Go.Proofs.YtindnnbopaeklaaGreatDoor
set_option linter.unusedVariables false
set_option linter.unusedSimpArgs false
set_option maxRecDepth 100000
set_option maxHeartbeats 4000000
open Go.RowKit Go.Shelf
def mdV (gen bound : Nat) (a : Option Addr) (n c : Nat) : Value := .agg #[.int .u32 gen, .int .u32 bound, .slice a n c]
abbrev spS (S x y : Nat) : As := cls S #[.int .i64 x, .int .i64 y] 36
theorem which1_own (k : Nat) (hk : k < 10) (gen bound : Nat) (a : Option Addr) (n c e1 e2 x y S M : Nat) (w : World) (hS : w.heap[S]? = some (.cells #[.int .i64 x, .int .i64 y] 36 (0, 0))) (hM : w.heap[M]? = some (.cells #[.int .u32 gen, .int .u32 bound, .slice a n c] 28 (0, 0))) (hne : M ≠ S)
  (cA : ∀ (L : List As) (W : World), Own (fun b => b = S) w L W → Calls Tryz.prog (fo k) #[mdV gen bound a n c] W fun e w' => e = .returned (.agg #[.int .i64 e1, .int .i64 e2]) ∧ Below W.heap.size W w') :
  Calls Tryz.prog 73 #[rl k, .pointer (some ⟨M, 0, none⟩), .pointer (some ⟨S, 0, none⟩)] w fun e w' => e = .returned (.bool (!((e1 : Int) == 0))) ∧ Step (spS S x y) (spS S e1 e2) w w' := by
 have zM := (Array.getElem?_eq_some_iff.1 hM).1
 have zS := (Array.getElem?_eq_some_iff.1 hS).1
 have HO : Own (fun b => b = S) w [spS S x y] w := Own.start (A := spS S x y) hS (fun k hk => by cases hk; exact zS)
 have hMk : ∀ (L : List As) (W : World), Own (fun b => b = S) w L W → W.heap[M]? = some (.cells #[.int .u32 gen, .int .u32 bound, .slice a n c] 28 (0, 0)) := fun L W h => (h.keep M zM hne).trans hM
 clear hS hM
 unfold mdV at cA
 unfold spS at HO ⊢
 rcases (show k = 0 ∨ k = 1 ∨ k = 2 ∨ k = 3 ∨ k = 4 ∨ k = 5 ∨ k = 6 ∨ k = 7 ∨ k = 8 ∨ k = 9 by omega) with rfl | rfl | rfl | rfl | rfl | rfl | rfl | rfl | rfl | rfl
 all_goals
  clear hk
  unfold rl fval
  unfold fo at cA ⊢
  go_enter Tryz.func73, Tryz.ntmps73
  go_wp2_with (first | ((with_reducible refine sp_alloc HO ?_); clear HO; (try clear kk); intro g W' hg HO; rw [← hg.out]; clear hg; (try simp only [zTz, zTs, zTa] at HO); (try have kk := HO.kk)) | (refine wpList_load_row rfl 28 _ rfl M rfl 28 _ _ _ (hMk _ _ HO) Tryz.underlying28 rfl (by kernel_rfl) ?_) | ((refine sp_wk HO rfl 36 _ _ rfl rfl rfl (by kernel_rfl) (by rfl) (by simp [Value.oneCell']) ?_); clear HO; (try clear kk); intro W' HO; (try simp only [zTz, zTs, zTa] at HO); (try have kk := HO.kk)) | ((first | go_at_call 22 | go_at_call 168 | go_at_call 89 | go_at_call 169 | go_at_call 170 | go_at_call 171 | go_at_call 172 | go_at_call 174 | go_at_call 175 | go_at_call 176); (with_reducible refine (cA _ _ HO).mono ?_); rintro e w1 ⟨rfl, hn⟩; replace HO := HO.then hn; clear hn; (try clear kk); (try simp only [zTz, zTs, zTa, zDs, zDz] at HO); (try have kk := HO.kk)))
  go_ret
  exact ⟨rfl, Own.done (A := spS S x y) (HO.drop 1)⟩
end Go.Proofs.YtindnnbopaeklaaGreatDoor
namespace Go.Proofs.YtindnnbopaeklaaGreatDoor
set_option linter.unusedVariables false
set_option linter.unusedSimpArgs false
set_option maxRecDepth 100000
open Go.RowKit Go.Shelf
attribute [local go_sem] Oper.semAt_some
structure Fir (B : Nat) (fv : Value) (W : World) (c0 c1 : Value) (b : Bool) : Prop where
 h : W.heap[B]? = some (.cells #[fv] 121 (0, 0))
 r : W.heap[B + 1]? = some (.cells #[c0, c1] 118 (0, 0))
 is : W.heap[B + 2]? = some (.cells #[.bool b] 4 (0, 0))
theorem Fir.keep {B : Nat} {fv c0 c1 : Value} {b : Bool} {W W' : World} (h : Fir B fv W c0 c1 b) (hb : Below (B + 3) W W') : Fir B fv W' c0 c1 b :=
 ⟨(hb.block _ (by omega)).trans h.h, (hb.block _ (by omega)).trans h.r, (hb.block _ (by omega)).trans h.is⟩
theorem Fir.aside {B : Nat} {fv c0 c1 : Value} {b : Bool} {W W' : World} (h : Fir B fv W c0 c1 b) (hb : Aside B W W') : Fir B fv W' c0 c1 b := by
 have z0 := (Array.getElem?_eq_some_iff.1 h.h).1
 have z1 := (Array.getElem?_eq_some_iff.1 h.r).1
 have z2 := (Array.getElem?_eq_some_iff.1 h.is).1
 exact ⟨(hb.2 _ (by omega) z0).trans h.h, (hb.2 _ (by omega) z1).trans h.r, (hb.2 _ (by omega) z2).trans h.is⟩
theorem fir3 (w : World) (o0 o1 o2 : Obj) : (((w.alloc o0).alloc o1).alloc o2).heap[w.heap.size]? = some o0 ∧ (((w.alloc o0).alloc o1).alloc o2).heap[w.heap.size + 1]? = some o1 ∧ (((w.alloc o0).alloc o1).alloc o2).heap[w.heap.size + 2]? = some o2 := by
 have h1 := World.alloc_heap_new (w.alloc o0) o1
 have h2 := World.alloc_heap_new ((w.alloc o0).alloc o1) o2
 simp only [World.size_alloc] at h1 h2
 exact ⟨(Below.heap_alloc _ _ _ (by simp <;> omega)).trans ((Below.heap_alloc _ _ _ (by simp)).trans (World.alloc_heap_new w o0)), (Below.heap_alloc _ _ _ (by simp)).trans h1, h2⟩
theorem res_row_cell {P : Program} {fn : Func} {p u : Tmp} {ty ty' : TypeId} (h : fn.results = #[.cell p ty, .cell u ty']) (tmps : Array Value) (w : World) (g g' : Nat) (t : TypeId) (cs : Array Value) (fr : Nat × Nat) (d : TypeDesc) (v : Value)
  (hp : tmps.getD p undef = .pointer (some ⟨g, 0, none⟩)) (hg : w.heap[g]? = some (.cells cs t fr)) (hu : P.underlying ty = some d) (hd : (match d with | .struct _ | .array _ _ => true | _ => false) = true) (hi : (P.info? ty).map (·.size) = some cs.size)
  (hp' : tmps.getD u undef = .pointer (some ⟨g', 0, none⟩)) (hl : (loadVar ty' ⟨g', 0, none⟩).run P w = .ok v w) :
  (results fn tmps).run P w = .ok (.tuple #[.agg cs, v]) w := by
 have e : (results fn tmps).run P w = ((asAddr (tmps.getD p undef)).run P w).andThen fun a w₁ => ((loadVar ty a).run P w₁).andThen fun x w₂ => ((asAddr (tmps.getD u undef)).run P w₂).andThen fun a2 w₃ => ((loadVar ty' a2).run P w₃).andThen fun y w₄ => .ok (.tuple #[x, y]) w₄ := by
  simp only [results, h]
  simp [Sem.run_bind, Result.andThen]
 rw [e, hp, hp']
 simp only [asAddr, Sem.run_pure, Result.andThen_ok, run_loadVar_row w g t ty cs fr d hg hu hd hi, hl]
theorem infoRul : (Tryz.prog.info? 118).map (·.size) = some 2 := by kernel_rfl
theorem bool_load {w : World} {g : Nat} {b : Bool} (h : w.heap[g]? = some (.cells #[.bool b] 4 (0, 0))) : (loadVar 4 ⟨g, 0, none⟩).run Tryz.prog w = .ok (.bool b) w := by
 have hc : w.cell? ⟨g, 0, none⟩ = some (.bool b) := by rw [cell_of_row _ _ _ _ _ _ h]; rfl
 simp [go_sem, hc]
theorem Fir.stored {B : Nat} {fv c0 c1 : Value} {b b' : Bool} {W : World} (h : Fir B fv W c0 c1 b) (d0 d1 : Value) : Fir B fv ((W.setRow (B + 1) #[d0, d1]).setCell ⟨B + 2, 0, none⟩ (.bool b')) d0 d1 b' := by
 refine ⟨(heap_setCell_other _ ⟨B + 2, 0, none⟩ B _ (by show _ ≠ B + 2; omega)).trans ((row_other _ (by omega)).trans h.h), (heap_setCell_other _ ⟨B + 2, 0, none⟩ (B + 1) _ (by show _ ≠ B + 2; omega)).trans (row_same _ h.r), ?_⟩
 exact heap_setCell_same _ (B + 2) 0 _ _ _ ((row_other _ (by omega)).trans h.is)
theorem below_stored {B : Nat} (W : World) (d : Array Value) (v : Value) : Below B W ((W.setRow (B + 1) d).setCell ⟨B + 2, 0, none⟩ v) :=
 ⟨rfl, rfl, rfl, by rw [World.size_setCell]; simp, fun k hk => (heap_setCell_other _ ⟨B + 2, 0, none⟩ k _ (by show _ ≠ B + 2; omega)).trans (row_other _ (by omega))⟩
theorem aside_stored {B : Nat} (W : World) (d : Array Value) (v : Value) : Aside (B + 3) W ((W.setRow (B + 1) d).setCell ⟨B + 2, 0, none⟩ v) :=
 ⟨by rw [World.size_setCell]; simp, fun k hk _ => (heap_setCell_other _ ⟨B + 2, 0, none⟩ k _ (by show _ ≠ B + 2; omega)).trans (row_other _ (by omega))⟩
set_option maxHeartbeats 4000000 in
theorem chkfirst_own (M S : Nat) (w : World) (J Jx : Nat → World → Prop) (hJ : Stable w.heap.size J) (hJx : Stable w.heap.size Jx) (h0 : J 0 w)
  (hc : ∀ k W, k < 10 → J k W → w.heap.size ≤ W.heap.size → Calls Tryz.prog 73 #[rl k, .pointer (some ⟨M, 0, none⟩), .pointer (some ⟨S, 0, none⟩)] W fun e W' => (e = .returned (.bool false) ∧ J (k + 1) W' ∨ e = .returned (.bool true) ∧ Jx k W') ∧ Aside w.heap.size W W') :
  Calls Tryz.prog 72 #[.func (.func 73) #[] #[.pointer (some ⟨M, 0, none⟩), .pointer (some ⟨S, 0, none⟩)]] w fun e w' => (e = .returned (.tuple #[.agg #[.string ⟨#[]⟩, .nilFunc], .bool false]) ∧ J 10 w') ∨ ∃ k, k < 10 ∧ e = .returned (.tuple #[.agg #[.string (nm k), .func (.func (fo k)) #[] #[]], .bool true]) ∧ Jx k w' := by
 refine (callsIn_wide (n := 3)).1 ?_
 refine callsIn_of_wp_marks Tryz.func72 rfl trivial ?_ rfl
 simp only [Tryz.ntmps72, List.size_toArray, List.length_cons, List.length_nil, Nat.reduceAdd, Nat.reduceSub, Array.replicate_succ, Array.replicate_zero, List.push_toArray, List.append_toArray, List.nil_append, List.cons_append]
 gi_wp2_with (refine ⟨trivial, ?_⟩; gi_at_call 88; refine (callsIn_wide.2 (each_own _)).mono ?_; rintro e w1 ⟨rfl, rfl⟩)
 have hF0 : Fir w.heap.size (.func (.func 73) #[] #[.pointer (some ⟨M, 0, none⟩), .pointer (some ⟨S, 0, none⟩)]) (((w.alloc (.cells #[.func (.func 73) #[] #[.pointer (some ⟨M, 0, none⟩), .pointer (some ⟨S, 0, none⟩)]] 121)).alloc (.cells #[.string ⟨#[]⟩, .nilFunc] 118)).alloc (.cells #[.bool false] 4)) (.string ⟨#[]⟩) .nilFunc false :=
  ⟨(fir3 w _ _ _).1, (fir3 w _ _ _).2.1, (fir3 w _ _ _).2.2⟩
 have hb0 : Below w.heap.size w (((w.alloc (.cells #[.func (.func 73) #[] #[.pointer (some ⟨M, 0, none⟩), .pointer (some ⟨S, 0, none⟩)]] 121)).alloc (.cells #[.string ⟨#[]⟩, .nilFunc] 118)).alloc (.cells #[.bool false] 4)) :=
  (((Below.refl _ w).alloc (Nat.le_refl _) _).alloc (by simp) _).alloc (by simp; omega) _
 have hz0 : (((w.alloc (.cells #[.func (.func 73) #[] #[.pointer (some ⟨M, 0, none⟩), .pointer (some ⟨S, 0, none⟩)]] 121)).alloc (.cells #[.string ⟨#[]⟩, .nilFunc] 118)).alloc (.cells #[.bool false] 4)).heap.size = w.heap.size + 3 := by simp
 generalize ((w.alloc (.cells #[.func (.func 73) #[] #[.pointer (some ⟨M, 0, none⟩), .pointer (some ⟨S, 0, none⟩)]] 121)).alloc (.cells #[.string ⟨#[]⟩, .nilFunc] 118)).alloc (.cells #[.bool false] 4) = W0 at hF0 hb0 hz0 ⊢
 obtain ⟨fv, hfv⟩ : ∃ fv, Hid (fv = Value.func (.func 73) #[] #[.pointer (some ⟨M, 0, none⟩), .pointer (some ⟨S, 0, none⟩)]) := ⟨_, hid rfl⟩
 rw [← hfv.out] at hF0
 have hHJ := hid hJ
 have hHX := hid hJx
 refine range_iterA (hit := each_iter) (fun C hb => trivial) rfl (enters_of Tryz.func126 (by kernel_rfl) rfl) (fun _ => rfl)
  (fun k A => J k A ∧ Fir w.heap.size fv A (.string ⟨#[]⟩) .nilFunc false ∧ w.heap.size + 3 ≤ A.heap.size) (fun c k A => c = .ret ∧ k < 10 ∧ Jx k A ∧ Fir w.heap.size fv A (.string (nm k)) (fval k) true)
  (fun k A C h hb => ⟨hHJ.out k A C h.1 (hb.mono (by omega)), h.2.1.keep (by rw [← hz0]; exact hb), Nat.le_trans h.2.2 hb.size⟩)
  (fun c k A C h hb => ⟨h.1, h.2.1, hHX.out k A C h.2.2.1 (hb.mono (by omega)), h.2.2.2.keep (by rw [← hz0]; exact hb)⟩)
  ⟨hHJ.out 0 _ _ h0 hb0, hF0, by omega⟩ ?round ?done ?stop
 case round =>
  rintro l2 k W1 hk ⟨hj, hF, hs⟩ hle hlt hz
  have ha1 : Below (w.heap.size + 3) W1 (W1.alloc (.cells #[.string (nm k), .func (.func (fo k)) #[] #[]] 118)) := (Below.refl _ W1).alloc hs _
  have hn1 : (W1.alloc (.cells #[.string (nm k), .func (.func (fo k)) #[] #[]] 118)).heap[W1.heap.size]? = some (.cells #[.string (nm k), .func (.func (fo k)) #[] #[]] 118) := World.alloc_heap_new W1 _
  unfold rl fval
  gi_wp2
  refine ⟨Aside.alloc _ _ _, ⟨hHJ.out k _ _ hj (ha1.mono (by omega)), hF.keep ha1, by simp; omega⟩, fun o' => ?_⟩
  have hj2 := hHJ.out k _ _ (hHJ.out k _ _ hj (ha1.mono (by omega))) (below_put (l := l2) _ o' (by omega))
  have hF2 := (hF.keep ha1).keep (below_put (l := l2) _ o' (by omega))
  have hn2 : ((W1.alloc (.cells #[.string (nm k), .func (.func (fo k)) #[] #[]] 118)).putObj l2 o').heap[W1.heap.size]? = some (.cells #[.string (nm k), .func (.func (fo k)) #[] #[]] 118) := (World.putObj_heap_other (by omega)).trans hn1
  have hz2 : W1.heap.size < ((W1.alloc (.cells #[.string (nm k), .func (.func (fo k)) #[] #[]] 118)).putObj l2 o').heap.size := by simp
  generalize (W1.alloc (.cells #[.string (nm k), .func (.func (fo k)) #[] #[]] 118)).putObj l2 o' = W2 at hj2 hF2 hn2 hz2 ⊢
  clear hn1 ha1 hF hj
  have hcf : W2.cell? ⟨w.heap.size, 0, none⟩ = some (.func (.func 73) #[] #[.pointer (some ⟨M, 0, none⟩), .pointer (some ⟨S, 0, none⟩)]) := by rw [cell_of_row _ _ _ _ _ _ hF2.h, hfv.out]; rfl
  have r0 : W2.cell? ⟨W1.heap.size, 0, none⟩ = some (.string (nm k)) := by rw [cell_of_row _ _ _ _ _ _ hn2]; rfl
  have r1 : W2.cell? ⟨W1.heap.size, 1, none⟩ = some (.func (.func (fo k)) #[] #[]) := by rw [cell_of_row _ _ _ _ _ _ hn2]; rfl
  have hcc := hc k W2 hk hj2 (by omega)
  unfold rl fval at hcc
  gi_wp2
  refine ⟨trivial, rfl, ?_⟩
  gi_at_call 73
  refine (CallsIn.inRound _ (callsIn_wide.2 hcc)).mono ?_
  clear hcf r0 r1 hcc
  rintro e W4 ⟨⟨rfl, hj4⟩ | ⟨rfl, hx4⟩, hA4⟩
  ·have hF4 := hF2.aside hA4
   have hs4 := hA4.1
   gi_wp2
   exact ⟨hA4.mono (by omega), hj4, hF4, by omega⟩
  ·have hF4 := hF2.aside hA4
   have hs4 := hA4.1
   have hn4 := (hA4.2 _ (by omega) hz2).trans hn2
   have r0 : W4.cell? ⟨W1.heap.size, 0, none⟩ = some (.string (nm k)) := by rw [cell_of_row _ _ _ _ _ _ hn4]; rfl
   have r1 : W4.cell? ⟨W1.heap.size, 1, none⟩ = some (.func (.func (fo k)) #[] #[]) := by rw [cell_of_row _ _ _ _ _ _ hn4]; rfl
   have f2 : (W4.setRow (w.heap.size + 1) #[.string (nm k), .func (.func (fo k)) #[] #[]]).frozen? ⟨w.heap.size + 1 + 1, 0, none⟩ = false := frozen_of_row _ _ 0 _ _ ((row_other _ (by omega)).trans hF4.is)
   have g2 : (W4.setRow (w.heap.size + 1) #[.string (nm k), .func (.func (fo k)) #[] #[]]).cell? ⟨w.heap.size + 1 + 1, 0, none⟩ = some (.bool false) := (cell_of_row _ _ 0 _ _ _ ((row_other _ (by omega)).trans hF4.is)).trans rfl
   have o1 : (#[Value.string (nm k), Value.func (.func (fo k)) #[] #[]] : Array Value).all (·.oneCell') = true := by simp [Value.oneCell']
   gi_wp2_with (refine wpListIn_store_row rfl 118 _ _ rfl (w.heap.size + 1) #[.string (nm k), .func (.func (fo k)) #[] #[]] rfl rfl 118 _ hF4.r infoRul rfl o1 ?_)
   refine ⟨hA4.mono (by omega) |>.trans ?_, rfl, hk, hHX.out k _ _ hx4 (below_stored _ _ _), hF4.stored _ _⟩
   rw [hz0]
   exact aside_stored _ _ _
 case done =>
  rintro W3 ⟨hj, hF, hs⟩ hz hd
  rw [hz0] at hd hz ⊢
  have f2 : (W3.setRow (w.heap.size + 1) #[.string ⟨#[]⟩, .nilFunc]).frozen? ⟨w.heap.size + 1 + 1, 0, none⟩ = false := frozen_of_row _ _ 0 _ _ ((row_other _ (by omega)).trans hF.is)
  have g2 : (W3.setRow (w.heap.size + 1) #[.string ⟨#[]⟩, .nilFunc]).cell? ⟨w.heap.size + 1 + 1, 0, none⟩ = some (.bool false) := (cell_of_row _ _ 0 _ _ _ ((row_other _ (by omega)).trans hF.is)).trans rfl
  gi_wp2_with (refine wpListIn_store_row rfl 118 _ _ rfl (w.heap.size + 1) #[.string ⟨#[]⟩, .nilFunc] rfl rfl 118 _ hF.r infoRul rfl (by simp [Value.oneCell']) ?_)
  have hF4 := hF.stored (b' := false) (.string ⟨#[]⟩) .nilFunc
  have hb4 := below_stored (B := w.heap.size) W3 #[.string ⟨#[]⟩, .nilFunc] (.bool false)
  have hd4 : ((W3.setRow (w.heap.size + 1) #[.string ⟨#[]⟩, .nilFunc]).setCell ⟨w.heap.size + 1 + 1, 0, none⟩ (.bool false)).heap[w.heap.size + 3]? = some (.deferred (some [])) := ((aside_stored (B := w.heap.size) W3 #[.string ⟨#[]⟩, .nilFunc] (.bool false)).2 _ (by omega) (by omega)).trans hd
  refine ⟨by simp, .inl ⟨_, _, rfl, run_takeDeferred hd4, ?_⟩⟩
  have hF5 : Fir w.heap.size fv (((W3.setRow (w.heap.size + 1) #[.string ⟨#[]⟩, .nilFunc]).setCell ⟨w.heap.size + 1 + 1, 0, none⟩ (.bool false)).putObj (w.heap.size + 3) (.deferred none)) (.string ⟨#[]⟩) .nilFunc false := hF4.keep (below_put (l := w.heap.size + 3) _ (.deferred none) (by omega))
  exact ⟨_, res_row_cell rfl _ _ (w.heap.size + 1) (w.heap.size + 1 + 1) 118 #[.string ⟨#[]⟩, .nilFunc] (0, 0) _ (.bool false) rfl hF5.r Tryz.underlying118 rfl infoRul rfl (bool_load hF5.is), .inl ⟨rfl, hHJ.out _ _ _ (hHJ.out _ _ _ hj hb4) (below_put _ _ (by omega))⟩⟩
 case stop =>
  rintro c k W3 ⟨rfl, hk, hj, hF⟩ hz hd
  gi_wp2
  refine ⟨by simp, .inl ⟨_, _, rfl, run_takeDeferred hd, ?_⟩⟩
  have hF5 := hF.keep (below_put (l := W0.heap.size) W3 (.deferred none) (by omega))
  refine ⟨_, res_row_cell rfl _ _ (w.heap.size + 1) (w.heap.size + 1 + 1) 118 #[.string (nm k), fval k] (0, 0) _ (.bool true) rfl hF5.r Tryz.underlying118 rfl infoRul rfl (bool_load hF5.is), .inr ⟨k, hk, rfl, hHX.out k _ _ hj (below_put _ _ (by omega))⟩⟩
end Go.Proofs.YtindnnbopaeklaaGreatDoor
namespace Go.Proofs.YtindnnbopaeklaaGreatDoor
set_option linter.unusedVariables false
set_option linter.unusedSimpArgs false
set_option maxRecDepth 100000
set_option maxHeartbeats 4000000
open Go.RowKit Go.Shelf
def saysV (stop e1 e2 k : Nat) : Nat × Nat := if k = stop then (e1, e2) else (0, 0)
def whL (S R M gen bound : Nat) (a : Option Addr) (n c : Nat) (x y : Nat) : List As := [spS S x y, cls R #[.int .i64 0, .int .i64 0] 36, cls M #[.int .u32 gen, .int .u32 bound, .slice a n c] 28]
theorem which_own (gen bound : Nat) (a : Option Addr) (n c stop e1 e2 : Nat) (hst : stop ≤ 10) (he : e1 ≠ 0) (w : World)
  (cA : ∀ k, k < 10 → k ≤ stop → ∀ W, Below w.heap.size w W → Calls Tryz.prog (fo k) #[mdV gen bound a n c] W fun e w' => e = .returned (.agg #[.int .i64 (saysV stop e1 e2 k).1, .int .i64 (saysV stop e1 e2 k).2]) ∧ Below W.heap.size W w') :
  Calls Tryz.prog 52 #[mdV gen bound a n c] w fun e w' => ∃ s, e = .returned (.tuple #[.string s, .agg #[.int .i64 (if stop = 10 then 0 else e1 : Nat), .int .i64 (if stop = 10 then 0 else e2 : Nat)]]) ∧ Below w.heap.size w w' := by
 have HO := Own.nil w
 unfold mdV
 obtain ⟨x, hx⟩ : ∃ x, Hid ((if stop = 10 then 0 else e1) = x) := ⟨_, hid rfl⟩
 obtain ⟨y, hy⟩ : ∃ y, Hid ((if stop = 10 then 0 else e2) = y) := ⟨_, hid rfl⟩
 rw [hx.out, hy.out]
 have HC := hid cA
 clear cA
 go_enter Tryz.func52, Tryz.ntmps52
 go_wp2_with (first | (((with_reducible first | refine sp_al HO ?_ | refine sp_alc HO ?_); intro g hg; rw [← hg.out]; clear hg); clear HO; (try clear kk); intro W' HO; (try simp only [zTz, zTs, zTa] at HO); (try have kk := HO.kk)))
 rename_i gM V1 gR V2 K1 a1 K2 a2
 obtain ⟨gS, rfl⟩ : ∃ q, q = g := ⟨_, rfl⟩
 have H0 : Own noX w (whL gS gR gM gen bound a n c 0 0) W' := HO
 clear HO
 (try clear kk)
 have lS := H0.le 0 rfl
 have zS := H0.lt 0 rfl
 have hne : gM ≠ gS := fun e => H0.ne 0 2 rfl rfl (by omega) e.symm
 have hdom : ∀ x y, ∀ A ∈ whL gS gR gM gen bound a n c x y, ∀ k, A.dom k → k < W'.heap.size := fun x y A hA k hk => by
  rcases List.mem_cons.1 hA with rfl | hA
  ·cases hk; exact zS
  ·exact (H0.low A (List.mem_cons_of_mem _ hA) k hk).2
 go_at_call 72
 refine (chkfirst_own gM gS W' (fun k W => k ≤ stop ∧ Own noX w (whL gS gR gM gen bound a n c 0 0) W) (fun k W => k = stop ∧ Own noX w (whL gS gR gM gen bound a n c e1 e2) W) (fun k A C h hb => ⟨h.1, h.2.upto (hdom 0 0) H0.size hb⟩) (fun k A C h hb => ⟨h.1, h.2.upto (hdom e1 e2) H0.size hb⟩) ⟨Nat.zero_le _, H0⟩ (fun k W hk hj hsz => ?_)).mono ?_
 ·obtain ⟨hkk, hW⟩ := hj
  refine (which1_own k hk gen bound a n c (saysV stop e1 e2 k).1 (saysV stop e1 e2 k).2 0 0 gS gM W (hW.blk 0 rfl) (hW.blk 2 rfl) hne (fun L W2 h2 => HC.out k hk hkk W2 ?_)).mono ?_
  ·have hb := hW.below
   exact ⟨h2.os.trans hb.os, h2.tape.trans hb.tape, h2.output.trans hb.output, Nat.le_trans hb.size h2.size, fun q hq => (h2.keep q (Nat.lt_of_lt_of_le hq hb.size) (fun e => by omega)).trans (hb.block q hq)⟩
  ·rintro e W3 ⟨rfl, hs⟩
   have h3 := hW.step 0 rfl hs
   have hA : Aside W'.heap.size W W3 := ⟨hs.size, fun b hb hlt => hs.other b hlt (fun hd => by have hd : b = gS := hd; omega)⟩
   unfold saysV at h3 ⊢
   by_cases q : k = stop
   ·rw [if_pos q] at h3 ⊢
    refine ⟨.inr ⟨?_, q, h3⟩, hA⟩
    have : ((e1 : Int) == 0) = false := by rw [beq_eq_false_iff_ne]; omega
    rw [this]; rfl
   ·rw [if_neg q] at h3 ⊢
    exact ⟨.inl ⟨rfl, by omega, h3⟩, hA⟩
 clear H0 lS zS hdom HC
 rintro e W3 (⟨rfl, hk, HO⟩ | ⟨k, hk, rfl, rfl, HO⟩)
 ·have hx0 : x = 0 := by have := hx.out; rw [if_pos (by omega)] at this; exact this.symm
  have hy0 : y = 0 := by have := hy.out; rw [if_pos (by omega)] at this; exact this.symm
  subst hx0 hy0
  clear hx hy hk hst he hne
  unfold whL spS at HO
  (try simp only [zTz, zTs, zTa, zDs, zDz] at HO); (try have kk := HO.kk)
  go_wp2_with (first | ((first | ((with_reducible first | refine sp_al HO ?_ | refine sp_alc HO ?_); intro g hg; rw [← hg.out]; clear hg) | (with_reducible first | refine sp_sk HO ?_ | refine sp_skc HO ?_) | (refine sp_wk HO rfl 118 _ _ rfl rfl rfl (by kernel_rfl) (by rfl) (by simp [Value.oneCell']) ?_)); clear HO; (try clear kk); intro W' HO; (try simp only [zTz, zTs, zTa] at HO); (try have kk := HO.kk)))
  have n5 : gS ≠ gR := HO.ne 1 2 rfl rfl (by omega)
  have z5 := HO.lt 1 rfl
  have z3 := HO.lt 2 rfl
  go_region
  go_wp2_with fail
  have H := ((HO.set 2 0 (.int .i64 (0 : Nat)) rfl).set 2 1 (.int .i64 (0 : Nat)) rfl).drew
  refine bodyPost_ret_by (res_tmp_row rfl _ _ _ 36 #[.int .i64 (0 : Nat), .int .i64 (0 : Nat)] _ _ rfl (H.blk 2 rfl) Tryz.underlying36 rfl infoSpt) rfl ?_
  exact ⟨_, rfl, H.below⟩
 ·have hx0 : x = e1 := by have := hx.out; rw [if_neg (by omega)] at this; exact this.symm
  have hy0 : y = e2 := by have := hy.out; rw [if_neg (by omega)] at this; exact this.symm
  subst hx0 hy0
  clear hx hy hst he hne
  unfold whL spS at HO
  (try simp only [zTz, zTs, zTa, zDs, zDz] at HO); (try have kk := HO.kk)
  go_wp2_with (first | ((first | ((with_reducible first | refine sp_al HO ?_ | refine sp_alc HO ?_); intro g hg; rw [← hg.out]; clear hg) | (with_reducible first | refine sp_sk HO ?_ | refine sp_skc HO ?_) | (refine sp_wk HO rfl 118 _ _ rfl rfl rfl (by kernel_rfl) (by rfl) (by simp [Value.oneCell']) ?_)); clear HO; (try clear kk); intro W' HO; (try simp only [zTz, zTs, zTa] at HO); (try have kk := HO.kk)))
  have n5 : gS ≠ gR := HO.ne 1 2 rfl rfl (by omega)
  have z5 := HO.lt 1 rfl
  have z3 := HO.lt 2 rfl
  go_region
  go_wp2_with fail
  have H := ((HO.set 2 0 (.int .i64 (x : Nat)) rfl).set 2 1 (.int .i64 (y : Nat)) rfl).drew
  refine bodyPost_ret_by (res_tmp_row rfl _ _ _ 36 #[.int .i64 (x : Nat), .int .i64 (y : Nat)] _ _ rfl (H.blk 2 rfl) Tryz.underlying36 rfl infoSpt) rfl ?_
  exact ⟨_, rfl, H.below⟩
end Go.Proofs.YtindnnbopaeklaaGreatDoor
namespace Go.Proofs.YtindnnbopaeklaaGreatDoor
set_option linter.unusedVariables false
set_option linter.unusedSimpArgs false
set_option maxRecDepth 100000
set_option maxHeartbeats 4000000
open Go.RowKit
theorem chr1_own (gen bound : Nat) (a : Option Addr) (n c e1 e2 : Nat) (w : World) (cF : ∀ W, Below w.heap.size w W → Calls Tryz.prog 74 #[.agg #[.int .u32 gen, .int .u32 bound, .slice a n c]] W fun e w' => (∃ v, e = .returned (.tuple #[v, .agg #[.int .i64 e1, .int .i64 e2]])) ∧ Below W.heap.size W w') :
  Calls Tryz.prog 169 #[.agg #[.int .u32 gen, .int .u32 bound, .slice a n c]] w fun e w' => e = .returned (.agg #[.int .i64 e1, .int .i64 e2]) ∧ Below w.heap.size w w' := by
 have HO := Own.nil w
 go_enter Tryz.func169, Tryz.ntmps169
 go_wp2_with (first | ((first | ((with_reducible first | refine sp_al HO ?_ | refine sp_alc HO ?_); intro g hg; rw [← hg.out]; clear hg) | (with_reducible first | refine sp_sk HO ?_ | refine sp_skc HO ?_) | (refine sp_wk HO rfl 36 _ _ rfl rfl rfl (by kernel_rfl) (by rfl) (by simp [Value.oneCell']) ?_)); clear HO; (try clear kk); intro W' HO; (try simp only [zTz, zTs, zTa] at HO); (try have kk := HO.kk)) | (refine sp_lk HO rfl 28 _ rfl rfl _ Tryz.underlying28 rfl (by kernel_rfl) ?_) | (refine sp_lk HO rfl 36 _ rfl rfl _ Tryz.underlying36 rfl (by kernel_rfl) ?_) | (go_at_call 74; (with_reducible refine (cF _ HO.below).mono ?_); rintro e w1 ⟨⟨v, rfl⟩, hn1⟩; replace HO := HO.then hn1; clear hn1; (try clear kk); (try simp only [zTz, zTs, zTa, zDs, zDz] at HO); (try have kk := HO.kk)))
 refine bodyPost_ret_by (res_row rfl _ _ _ 36 #[.int .i64 e1, .int .i64 e2] _ _ rfl (HO.blk 1 rfl) Tryz.underlying36 rfl infoSpt) rfl ?_
 exact ⟨rfl, HO.below⟩
theorem chr2_own (gen bound : Nat) (a : Option Addr) (n c e1 e2 : Nat) (w : World) (cF : ∀ W, Below w.heap.size w W → Calls Tryz.prog 53 #[.agg #[.int .u32 gen, .int .u32 bound, .slice a n c]] W fun e w' => (∃ v, e = .returned (.tuple #[v, .agg #[.int .i64 e1, .int .i64 e2]])) ∧ Below W.heap.size W w') :
  Calls Tryz.prog 170 #[.agg #[.int .u32 gen, .int .u32 bound, .slice a n c]] w fun e w' => e = .returned (.agg #[.int .i64 e1, .int .i64 e2]) ∧ Below w.heap.size w w' := by
 have HO := Own.nil w
 go_enter Tryz.func170, Tryz.ntmps170
 go_wp2_with (first | ((first | ((with_reducible first | refine sp_al HO ?_ | refine sp_alc HO ?_); intro g hg; rw [← hg.out]; clear hg) | (with_reducible first | refine sp_sk HO ?_ | refine sp_skc HO ?_) | (refine sp_wk HO rfl 36 _ _ rfl rfl rfl (by kernel_rfl) (by rfl) (by simp [Value.oneCell']) ?_)); clear HO; (try clear kk); intro W' HO; (try simp only [zTz, zTs, zTa] at HO); (try have kk := HO.kk)) | (refine sp_lk HO rfl 28 _ rfl rfl _ Tryz.underlying28 rfl (by kernel_rfl) ?_) | (refine sp_lk HO rfl 36 _ rfl rfl _ Tryz.underlying36 rfl (by kernel_rfl) ?_) | (go_at_call 53; (with_reducible refine (cF _ HO.below).mono ?_); rintro e w1 ⟨⟨v, rfl⟩, hn1⟩; replace HO := HO.then hn1; clear hn1; (try clear kk); (try simp only [zTz, zTs, zTa, zDs, zDz] at HO); (try have kk := HO.kk)))
 refine bodyPost_ret_by (res_row rfl _ _ _ 36 #[.int .i64 e1, .int .i64 e2] _ _ rfl (HO.blk 1 rfl) Tryz.underlying36 rfl infoSpt) rfl ?_
 exact ⟨rfl, HO.below⟩
theorem chr3_own (gen bound : Nat) (a : Option Addr) (n c e1 e2 : Nat) (w : World) (cF : ∀ W, Below w.heap.size w W → Calls Tryz.prog 173 #[.agg #[.int .u32 gen, .int .u32 bound, .slice a n c]] W fun e w' => (∃ v, e = .returned (.tuple #[v, .agg #[.int .i64 e1, .int .i64 e2]])) ∧ Below W.heap.size W w') :
  Calls Tryz.prog 172 #[.agg #[.int .u32 gen, .int .u32 bound, .slice a n c]] w fun e w' => e = .returned (.agg #[.int .i64 e1, .int .i64 e2]) ∧ Below w.heap.size w w' := by
 have HO := Own.nil w
 go_enter Tryz.func172, Tryz.ntmps172
 go_wp2_with (first | ((first | ((with_reducible first | refine sp_al HO ?_ | refine sp_alc HO ?_); intro g hg; rw [← hg.out]; clear hg) | (with_reducible first | refine sp_sk HO ?_ | refine sp_skc HO ?_) | (refine sp_wk HO rfl 36 _ _ rfl rfl rfl (by kernel_rfl) (by rfl) (by simp [Value.oneCell']) ?_)); clear HO; (try clear kk); intro W' HO; (try simp only [zTz, zTs, zTa] at HO); (try have kk := HO.kk)) | (refine sp_lk HO rfl 28 _ rfl rfl _ Tryz.underlying28 rfl (by kernel_rfl) ?_) | (refine sp_lk HO rfl 36 _ rfl rfl _ Tryz.underlying36 rfl (by kernel_rfl) ?_) | (go_at_call 173; (with_reducible refine (cF _ HO.below).mono ?_); rintro e w1 ⟨⟨v, rfl⟩, hn1⟩; replace HO := HO.then hn1; clear hn1; (try clear kk); (try simp only [zTz, zTs, zTa, zDs, zDz] at HO); (try have kk := HO.kk)))
 refine bodyPost_ret_by (res_row rfl _ _ _ 36 #[.int .i64 e1, .int .i64 e2] _ _ rfl (HO.blk 1 rfl) Tryz.underlying36 rfl infoSpt) rfl ?_
 exact ⟨rfl, HO.below⟩
theorem facecheck_own (gen bound : Nat) (a : Option Addr) (n c e1 e2 : Nat) (w : World) (cF : ∀ W, Below w.heap.size w W → Calls Tryz.prog 226 #[.agg #[.int .u32 gen, .int .u32 bound, .slice a n c]] W fun e w' => (∃ v, e = .returned (.tuple #[v, .agg #[.int .i64 e1, .int .i64 e2]])) ∧ Below W.heap.size W w') :
  Calls Tryz.prog 176 #[.agg #[.int .u32 gen, .int .u32 bound, .slice a n c]] w fun e w' => e = .returned (.agg #[.int .i64 e1, .int .i64 e2]) ∧ Below w.heap.size w w' := by
 have HO := Own.nil w
 go_enter Tryz.func176, Tryz.ntmps176
 go_wp2_with (first | ((first | ((with_reducible first | refine sp_al HO ?_ | refine sp_alc HO ?_); intro g hg; rw [← hg.out]; clear hg) | (with_reducible first | refine sp_sk HO ?_ | refine sp_skc HO ?_) | (refine sp_wk HO rfl 36 _ _ rfl rfl rfl (by kernel_rfl) (by rfl) (by simp [Value.oneCell']) ?_)); clear HO; (try clear kk); intro W' HO; (try simp only [zTz, zTs, zTa] at HO); (try have kk := HO.kk)) | (refine sp_lk HO rfl 28 _ rfl rfl _ Tryz.underlying28 rfl (by kernel_rfl) ?_) | (refine sp_lk HO rfl 36 _ rfl rfl _ Tryz.underlying36 rfl (by kernel_rfl) ?_) | (go_at_call 226; (with_reducible refine (cF _ HO.below).mono ?_); rintro e w1 ⟨⟨v, rfl⟩, hn1⟩; replace HO := HO.then hn1; clear hn1; (try clear kk); (try simp only [zTz, zTs, zTa, zDs, zDz] at HO); (try have kk := HO.kk)))
 refine bodyPost_ret_by (res_row rfl _ _ _ 36 #[.int .i64 e1, .int .i64 e2] _ _ rfl (HO.blk 1 rfl) Tryz.underlying36 rfl infoSpt) rfl ?_
 exact ⟨rfl, HO.below⟩
end Go.Proofs.YtindnnbopaeklaaGreatDoor
