/- Consts: a null constant. -/
import Derived.Test.YtindnnbopaeklaaGreatDoorAx
namespace Go.Proofs.YtindnnbopaeklaaGreatDoor
set_option linter.unusedVariables false
set_option linter.unusedSimpArgs false
set_option maxRecDepth 100000
set_option maxHeartbeats 4000000
open Go.RowKit Go.MapKept
def wz (n : Nat) : Array Value := madeCells #[.int .u32 0] n
theorem wz_size (n : Nat) : (wz n).size = n := size_madeCells _ _
theorem run_words (n : Nat) (h : n ≤ 2000000) (W : World) : (Instr.makeSlice 32 (.int .i64 n) (.int .i64 n)).run Tryz.prog W = .ok (.slice (some ⟨W.heap.size, 0, none⟩) n n) (W.alloc (.cells (wz n) 23)) := by
 obtain ⟨i0, hi, hz0, hz1, hz2⟩ := info_parts (P := Tryz.prog) (e := 23) (z := .int .u32 0) (size := 1) (bytes := 4) (by kernel_rfl)
 have := run_makeSlice (P := Tryz.prog) (w := W) 32 23 i0 (.int .u32 0) rfl hi hz0 .i64 .i64 n n (by omega) (by omega) (by rw [hz1]; omega) (by rw [hz2]; omega) (by omega)
 rw [this, hz1]
 simp [wz, Value.cells]
def keyH (k : Nat) : Value := .int .u16 (k : Int)
theorem keysH : Keys (.int .u16) keyH := ⟨fun k => rfl, fun k k' h => by unfold keyH at h; injection h with h1 h2; omega⟩
def encF (v : Value) : Value := v
def fnV (P n : Nat) : Value := .func (.func n) #[.pointer (some ⟨P, 0, none⟩)] #[]
def makersF (P : Nat) : Nat → Option Value := (kup (kup (kup (kup (kup (kup (fun _ => none) 1 (fnV P 92)) 46 (fnV P 92)) 41 (fnV P 93)) 42 (fnV P 93)) 43 (fnV P 94)) 44 (fnV P 95))
theorem cmakers_own (P : Nat) (w : World) :
  Calls Tryz.prog 75 #[.pointer (some ⟨P, 0, none⟩)] w fun e w' => (∃ m, e = .returned (.map (some m)) ∧ w.heap.size ≤ m ∧ Mp (.int .u16) keyH (fun _ v x => v = encF x) w' m (makersF P)) ∧ Below w.heap.size w w' := by
 have HO := Own.nil w
 have hmm := @run_makeMap Tryz.prog
 go_enter Tryz.func75, Tryz.ntmps75
 go_wp2_with (first | ((first | ((with_reducible first | refine sp_al HO ?_ | refine sp_alc HO ?_); intro g hg; rw [← hg.out]; clear hg) | (with_reducible first | refine sp_sk HO ?_ | refine sp_skc HO ?_)); clear HO; (try clear kk); intro W' HO; (try simp only [zTz, zTs, zTa] at HO); (try have kk := HO.kk)))
 clear hmm
 replace HO := HO.recast 0 (A' := mpA (.int .u16) keyH encF _ (fun _ => none)) rfl (fun k hk => hk) (mp_new (HO.blk 0 rfl))
 simp only [List.set_cons_zero] at HO
 obtain ⟨gM, rfl⟩ : ∃ q, q = g := ⟨_, rfl⟩
 obtain ⟨o0, hup, hm2⟩ := Mp.put (HO.at 0 rfl) keysH Tryz.underlying128 Tryz.underlying22 1 (fnV P 92) (fnV P 92) (fun _ _ _ h => h) (fun _ => rfl)
 have hup2 : (Instr.mapUpdate 128 (.map (some gM)) (.int .u16 1) (.func (.func 92) #[.pointer (some ⟨P, 0, none⟩)] #[])).run Tryz.prog W' = .ok () (putMap W' gM o0) := hup
 replace HO := HO.map 0 o0 rfl hm2
 simp only [List.set_cons_zero] at HO
 rw [hup2]
 clear hup hup2 hm2
 generalize putMap W' gM o0 = V0 at HO ⊢
 go_wp2_with fail
 obtain ⟨o1, hup, hm2⟩ := Mp.put (HO.at 0 rfl) keysH Tryz.underlying128 Tryz.underlying22 46 (fnV P 92) (fnV P 92) (fun _ _ _ h => h) (fun _ => rfl)
 have hup2 : (Instr.mapUpdate 128 (.map (some gM)) (.int .u16 46) (.func (.func 92) #[.pointer (some ⟨P, 0, none⟩)] #[])).run Tryz.prog V0 = .ok () (putMap V0 gM o1) := hup
 replace HO := HO.map 0 o1 rfl hm2
 simp only [List.set_cons_zero] at HO
 rw [hup2]
 clear hup hup2 hm2
 generalize putMap V0 gM o1 = V1 at HO ⊢
 go_wp2_with fail
 obtain ⟨o2, hup, hm2⟩ := Mp.put (HO.at 0 rfl) keysH Tryz.underlying128 Tryz.underlying22 41 (fnV P 93) (fnV P 93) (fun _ _ _ h => h) (fun _ => rfl)
 have hup2 : (Instr.mapUpdate 128 (.map (some gM)) (.int .u16 41) (.func (.func 93) #[.pointer (some ⟨P, 0, none⟩)] #[])).run Tryz.prog V1 = .ok () (putMap V1 gM o2) := hup
 replace HO := HO.map 0 o2 rfl hm2
 simp only [List.set_cons_zero] at HO
 rw [hup2]
 clear hup hup2 hm2
 generalize putMap V1 gM o2 = V2 at HO ⊢
 go_wp2_with fail
 obtain ⟨o3, hup, hm2⟩ := Mp.put (HO.at 0 rfl) keysH Tryz.underlying128 Tryz.underlying22 42 (fnV P 93) (fnV P 93) (fun _ _ _ h => h) (fun _ => rfl)
 have hup2 : (Instr.mapUpdate 128 (.map (some gM)) (.int .u16 42) (.func (.func 93) #[.pointer (some ⟨P, 0, none⟩)] #[])).run Tryz.prog V2 = .ok () (putMap V2 gM o3) := hup
 replace HO := HO.map 0 o3 rfl hm2
 simp only [List.set_cons_zero] at HO
 rw [hup2]
 clear hup hup2 hm2
 generalize putMap V2 gM o3 = V3 at HO ⊢
 go_wp2_with fail
 obtain ⟨o4, hup, hm2⟩ := Mp.put (HO.at 0 rfl) keysH Tryz.underlying128 Tryz.underlying22 43 (fnV P 94) (fnV P 94) (fun _ _ _ h => h) (fun _ => rfl)
 have hup2 : (Instr.mapUpdate 128 (.map (some gM)) (.int .u16 43) (.func (.func 94) #[.pointer (some ⟨P, 0, none⟩)] #[])).run Tryz.prog V3 = .ok () (putMap V3 gM o4) := hup
 replace HO := HO.map 0 o4 rfl hm2
 simp only [List.set_cons_zero] at HO
 rw [hup2]
 clear hup hup2 hm2
 generalize putMap V3 gM o4 = V4 at HO ⊢
 go_wp2_with fail
 obtain ⟨o5, hup, hm2⟩ := Mp.put (HO.at 0 rfl) keysH Tryz.underlying128 Tryz.underlying22 44 (fnV P 95) (fnV P 95) (fun _ _ _ h => h) (fun _ => rfl)
 have hup2 : (Instr.mapUpdate 128 (.map (some gM)) (.int .u16 44) (.func (.func 95) #[.pointer (some ⟨P, 0, none⟩)] #[])).run Tryz.prog V4 = .ok () (putMap V4 gM o5) := hup
 replace HO := HO.map 0 o5 rfl hm2
 simp only [List.set_cons_zero] at HO
 rw [hup2]
 clear hup hup2 hm2
 generalize putMap V4 gM o5 = V5 at HO ⊢
 go_wp2_with fail
 trace_state
 go_ret
 exact ⟨⟨gM, rfl, ((HO.low _ (List.mem_of_getElem? (i := 0) rfl) gM rfl).1).resolve_right id, HO.at 0 rfl⟩, HO.below⟩
theorem zeroFn (w : World) : (zeroValue 167).run Tryz.prog w = .ok .nilFunc w := by kernel_rfl
theorem eqNil (w : World) : (binOp .eql 167 .nilFunc .nilFunc).run Tryz.prog w = .ok (.bool true) w := by kernel_rfl
theorem eqFn (n : Nat) (xs ys : Array Value) (w : World) : (binOp .eql 167 (.func (.func n) xs ys) .nilFunc).run Tryz.prog w = .ok (.bool false) w := by kernel_rfl
theorem cadd_none (P M P0 op ty res : Nat) (v : Value) (w : World) (h : Mp (.int .u16) keyH (fun _ v x => v = encF x) w M (makersF P0)) (h1 : op ≠ 59) (h2 : makersF P0 op = none) :
  Calls Tryz.prog 76 #[.pointer (some ⟨P, 0, none⟩), .agg #[.int .u16 op, .int .u32 ty, .int .u32 res, v], .map (some M)] w fun e w' => e = .returned (.int .i64 0) ∧ Below w.heap.size w w' := by
 have HO := Own.nil w
 have hl : ∀ W, Below w.heap.size w W → (Instr.lookup 128 (.map (some M)) (.int .u16 op) false).run Tryz.prog W = .ok .nilFunc W := fun W hb => (h.other (hb.block _ h.lt) (fun _ _ e => e)).miss keysH Tryz.underlying128 Tryz.underlying22 h2 (zeroFn W) false
 have i1 : ((op : Int) == 59) = false := by rw [beq_eq_false_iff_ne]; omega
 clear h h1 h2
 have he := eqNil
 go_enter Tryz.func76, Tryz.ntmps76
 go_wp2_with (first | ((first | ((with_reducible first | refine sp_al HO ?_ | refine sp_alc HO ?_); intro g hg; rw [← hg.out]; clear hg) | (with_reducible first | refine sp_sk HO ?_ | refine sp_skc HO ?_)); clear HO; (try clear kk); intro W' HO; (try simp only [zTz, zTs, zTa] at HO); (try have kk := HO.kk)))
 have hl2 := hl _ HO.below
 try rw [hl2]
 go_wp2_with fail
 trace_state
 go_ret
 exact ⟨rfl, HO.below⟩
end Go.Proofs.YtindnnbopaeklaaGreatDoor
