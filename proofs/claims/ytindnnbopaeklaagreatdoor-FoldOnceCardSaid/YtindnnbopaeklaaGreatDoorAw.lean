/- Constructs of a graph of one node: of, Flaws, Check. -/
import Derived.Test.YtindnnbopaeklaaGreatDoorAv
import Derived.Test.YtindnnbopaeklaaGreatDoorAf
import Derived.Test.YtindnnbopaeklaaGreatDoorAm
import Derived.Test.YtindnnbopaeklaaGreatDoorAl
import Derived.Test.YtindnnbopaeklaaGreatDoorAo
import Derived.Test.YtindnnbopaeklaaGreatDoorAu
namespace Go.Proofs.YtindnnbopaeklaaGreatDoor
set_option linter.unusedVariables false
set_option linter.unusedSimpArgs false
set_option maxRecDepth 100000
set_option maxHeartbeats 2000000
open Go.RowKit Go.Shelf
theorem el_merge_i : ∃ i, Tryz.prog.info? 330 = some i ∧ i.zero = some (.agg #[.int .u8 0, .int .i64 0, .int .i64 0]) ∧ i.size = 3 ∧ i.bytes = 24 := info_parts (by kernel_rfl)
theorem mnil_ne (a : Addr) (n c : Nat) (W : World) : (binOp .eql 284 (.slice (some a) n c) (.slice none 0 0)).run Tryz.prog W = .ok (.bool false) W := by kernel_rfl
theorem clone_merge (b o cap : Nat) (x y z : Value) (h1 : x.oneCell' = true) (h2 : y.oneCell' = true) (h3 : z.oneCell' = true) (w : World) (hx : w.cell? ⟨b, o, none⟩ = some x) (hy : w.cell? ⟨b, o + 1, none⟩ = some y) (hz : w.cell? ⟨b, o + 2, none⟩ = some z) :
  Calls Tryz.prog 318 #[.slice (some ⟨b, o, none⟩) 1 cap] w fun e w' => ∃ g c, e = .returned (.slice (some ⟨g, 0, none⟩) 1 c) ∧ w'.ownsRow w.heap.size 330 3 (.slice (some ⟨g, 0, none⟩) 1 c) 1 [x, y, z] ∧ Below w.heap.size w w' := by
 have zb := block_lt_of_cell hx
 obtain ⟨i, hi1, hi2, hi3, hi4⟩ := el_merge_i
 have hq := mnil_ne ⟨b, o, none⟩ 1 cap w
 have ha := bal (Below.refl _ w) (.cells #[] 330)
 have hx2 := cell_last hx zb ha
 have hy2 := cell_last hy zb ha
 have hz2 := cell_last hz zb ha
 go_enter Tryz.func318, Tryz.ntmps318
 go_wp2_with ((with_reducible refine at_append ?_); refine wpList_append_lies (w.alloc (.cells #[] 330)) rfl (.tmp 5) (.tmp 6) 284 rfl w.heap.size 330 _ _ 3 24 Tryz.underlying284 hi1 hi2 hi3 hi4 rfl (by omega) (.slice (some ⟨w.heap.size, 0, none⟩) 0 0) 0 [] rfl (World.ownsRow_made w #[] 0 (Nat.le_refl _) (by unfold maxLen; omega) rfl) ⟨b, o, none⟩ 1 cap [x, y, z] rfl rfl ?_ (by simp [h1, h2, h3]) (by omega) (by unfold maxLen; omega) (by omega) (by simp) _ rfl ?_; (intro j u hu; rcases j with _ | _ | _ | j; (cases hu; rw [add_none]; exact hx2); (cases hu; rw [add_none]; exact hy2); (cases hu; rw [add_none]; exact hz2); (simp at hu)); intro g c w2 q1 q2 q3 q4; have Q1 := hid q1; have Q2 := hid ((bal (Below.refl _ w) (.cells #[] 330)).grown q2 (by simp) (fun k e => by cases e; exact Nat.le_refl _)); clear q1 q2 q3 q4)
 go_ret
 exact ⟨g, c, rfl, Q1.out, Q2.out⟩
theorem Own.called {X : Nat → Prop} {w W W' : World} {L : List As} {e : TypeId} {sz g n c : Nat} {xs : List Value} (h : Own X w L W) (hb : Below W.heap.size W W') (ho : W'.ownsRow W.heap.size e sz (.slice (some ⟨g, 0, none⟩) n c) n xs) : Own X w (rw_ W.heap.size e sz (.slice (some ⟨g, 0, none⟩) n c) n xs :: L) W' :=
 h.cons hb (fun k hk => ho.lt k hk) ho
theorem gkeeps (G : Nat) : Keeps (fun lo W => GrIn G lo W) := fun lo W W' h hk => GrIn.keep h hk
theorem tkeeps (T G : Nat) : Keeps (fun lo W => TrIn T lo G W) := fun lo W W' h hk => TrIn.keep h hk
theorem nsf_of {w W : World} {L : List As} {G l G2 T N n2 mg cm l1 h1 l2 h2 b : Nat} {z : Array Value}
  (HO : Own noX w (deep l2 h2 (fun lo W => TrIn T lo G2 W) :: deep l1 h1 (fun lo W => GrIn G2 lo W) :: cls N #[.pointer (some ⟨G, 0, none⟩), .slice (some ⟨mg, 0, none⟩) 1 cm, .pointer (some ⟨G2, 0, none⟩), .pointer (some ⟨T, 0, none⟩), .slice (some ⟨n2, 0, none⟩) 1 1] 419 :: cls n2 z 91 :: rw_ b 330 3 (.slice (some ⟨mg, 0, none⟩) 1 cm) 1 [.int .u8 0, .int .i64 (-1), .int .i64 (-1)] :: L) W) (hG : GrIn G l W) : NsF N W :=
 ⟨G, G2, T, mg, cm, l, l1, l2, HO.lt 2 rfl, HO.cell 2 0 rfl rfl, HO.cell 2 1 rfl rfl, HO.cell 2 2 rfl rfl, HO.cell 2 3 rfl rfl, HO.rowcell 4 0 rfl rfl, HO.rowcell 4 1 rfl rfl, HO.rowcell 4 2 rfl rfl, hG, (HO.at 1 rfl : DeepAt _ _ _ W).out (gkeeps G2), (HO.at 0 rfl : DeepAt _ _ _ W).out (tkeeps T G2)⟩
theorem nof_own (G lo mg o cm : Nat) (w : World) (hG : GrIn G lo w) (h0 : w.cell? ⟨mg, o, none⟩ = some (.int .u8 0)) (h1 : w.cell? ⟨mg, o + 1, none⟩ = some (.int .i64 (-1))) (h2 : w.cell? ⟨mg, o + 2, none⟩ = some (.int .i64 (-1))) :
  Calls Tryz.prog 283 #[.pointer (some ⟨G, 0, none⟩), .slice (some ⟨mg, o, none⟩) 1 cm] w fun e w' => (∃ N, e = .returned (.tuple #[.pointer (some ⟨N, 0, none⟩), .int .i64 0]) ∧ NsF N w') ∧ Below w.heap.size w w' := by
 have HO := Own.nil w
 have zm := block_lt_of_cell h0
 have cF := fit_own G lo mg o cm w hG h0 h1 h2
 have cL : ∀ W, Below w.heap.size w W → Calls Tryz.prog 300 #[.pointer (some ⟨G, 0, none⟩)] W fun e w' => e = .returned (.int .i64 1) ∧ w' = W := fun W hb => glen_own G lo W (hG.below hb)
 have cN : ∀ W, Below w.heap.size w W → Calls Tryz.prog 317 #[.pointer (some ⟨G, 0, none⟩), .int .i64 0] W fun e w' => e = .returned (.slice none 0 0) ∧ w' = W := fun W hb => gnext_own G lo W (hG.below hb)
 have cC : ∀ W, Below w.heap.size w W → Calls Tryz.prog 318 #[.slice (some ⟨mg, o, none⟩) 1 cm] W fun e w' => ∃ g c, e = .returned (.slice (some ⟨g, 0, none⟩) 1 c) ∧ w'.ownsRow W.heap.size 330 3 (.slice (some ⟨g, 0, none⟩) 1 c) 1 [.int .u8 0, .int .i64 (-1), .int .i64 (-1)] ∧ Below W.heap.size W w' := fun W hb => clone_merge mg o cm _ _ _ rfl rfl rfl W (cell_last h0 zm hb) (cell_last h1 zm hb) (cell_last h2 zm hb)
 have HG := hid hG
 clear hG
 have hmk : ∀ W : World, (Instr.makeSlice 288 (.int .i64 1) (.int .i64 1)).run Tryz.prog W = .ok (.slice (some ⟨W.heap.size, 0, none⟩) 1 1) (W.alloc (.cells #[.slice none 0 0] 91)) := fun W => by kernel_rfl
 have HC := hid (And.intro h0 (And.intro h1 h2))
 go_enter Tryz.func283, Tryz.ntmps283
 go_wp2_with (first | ((with_reducible refine sp_alloc HO ?_); clear HO; (try clear kk); intro g W' hg HO; rw [← hg.out]; clear hg; (try simp only [zTz, zTs, zTa] at HO); (try have kk := HO.kk)) | (go_at_call 300; (with_reducible refine (cL _ HO.below).mono ?_); rintro e w1 ⟨rfl, rfl⟩) | (go_at_call 316; (with_reducible refine cF.mono ?_); rintro e w1 ⟨rfl, hn⟩; replace HO := HO.then hn; clear hn))
 refine wp_loop_rounds 2 ?_
 rw [rounds_succ]
 clear cF
 go_wp2_with (first | ((first | (with_reducible refine sp_al HO ?_; intro g hg; rw [← hg.out]; clear hg) | (with_reducible first | refine sp_sk HO ?_ | refine sp_skc HO ?_) | (refine sp_wk HO rfl 330 _ _ rfl rfl rfl (by kernel_rfl) (by rfl) (by simp [Value.oneCell']) ?_)); clear HO; (try clear kk); intro W' HO; (try simp only [zTz, zTs, zTa] at HO); (try have kk := HO.kk)) | (go_at_call 317; (with_reducible refine (cN _ HO.below).mono ?_); rintro e w1 ⟨rfl, rfl⟩))
 rw [rounds_succ]
 go_wp2_with (first | ((first | (with_reducible refine sp_al HO ?_; intro g hg; rw [← hg.out]; clear hg) | (with_reducible first | refine sp_sk HO ?_ | refine sp_skc HO ?_)); clear HO; (try clear kk); intro W' HO; (try simp only [zTz, zTs, zTa] at HO); (try have kk := HO.kk)) | (go_at_call 300; (with_reducible refine (cL _ HO.below).mono ?_); rintro e w1 ⟨rfl, rfl⟩) | (go_at_call 318; (with_reducible refine (cC _ HO.below).mono ?_); rintro e w1 ⟨mg', cm', rfl, q1, hn⟩; replace HO := HO.called hn q1; clear hn q1; (try clear kk); (try simp only [zTz, zTs, zTa, zDs, zDz] at HO); (try have kk := HO.kk)) |
  (go_at_call 249; have cG := gof_own _ 0 1 0 none _ (HO.lt 4 rfl) (HO.cell 4 0 rfl rfl); (with_reducible refine cG.mono ?_); clear cG; rintro e w1 ⟨⟨G2, rfl, q1⟩, hn⟩; replace HO := HO.deep (P := fun lo W => GrIn G2 lo W) hn q1; clear hn q1; (try clear kk); (try simp only [zTz, zTs, zTa, zDs, zDz] at HO); (try have kk := HO.kk)) |
  (go_at_call 261; have cD := dnew_own _ _ _ ((HO.at 0 rfl : DeepAt _ _ _ _).out (gkeeps _)); (with_reducible refine cD.mono ?_); clear cD; rintro e w1 ⟨⟨T, rfl, q1⟩, hn⟩; replace HO := HO.deep (P := fun lo W => TrIn T lo _ W) hn q1; clear hn q1; (try clear kk); (try simp only [zTz, zTs, zTa, zDs, zDz] at HO); (try have kk := HO.kk)))
 refine wp_loop_rounds 2 ?_
 rw [rounds_succ]
 clear hmk cC cL cN
 (try clear kk)
 go_wp2_with fail
 have cA := around_own g W'.drew (nsf_of HO.drew (HG.out.below HO.drew.below))
 have k2 := HO.cells 2 rfl
 go_region_with ((go_at_call 319; (with_reducible refine cA.mono ?_); rintro e w1 ⟨rfl, hn⟩; have HO1 := HO.drew.then hn; clear hn; have k2' := HO1.cells 2 rfl; have k3' := HO1.cells 3 rfl; have m3' := HO1.melt 3 rfl))
 all_goals
  have HN := hid (nsf_of (HO1.set 3 0 (.slice none 0 0) rfl) (HG.out.below (HO1.set 3 0 (.slice none 0 0) rfl).below))
  have HB := hid (HO1.set 3 0 (.slice none 0 0) rfl).below
  clear HO HO1 k2 k2' k3' m3' cA
  go_wp2_with fail
  rw [rounds_succ]
  go_wp2_with fail
  go_ret2
  exact ⟨⟨g, rfl, HN.out⟩, HB.out⟩
theorem nflaws_own (G lo mg o cm : Nat) (w : World) (hG : GrIn G lo w) (h0 : w.cell? ⟨mg, o, none⟩ = some (.int .u8 0)) (h1 : w.cell? ⟨mg, o + 1, none⟩ = some (.int .i64 (-1))) (h2 : w.cell? ⟨mg, o + 2, none⟩ = some (.int .i64 (-1))) :
  Calls Tryz.prog 250 #[.pointer (some ⟨G, 0, none⟩), .slice (some ⟨mg, o, none⟩) 1 cm] w fun e w' => e = .returned (.tuple #[.slice none 0 0, .int .i64 0]) ∧ Below w.heap.size w w' := by
 have cO := nof_own G lo mg o cm w hG h0 h1 h2
 have cF := fun N W h => flaws_own N W h
 clear hG h0 h1 h2
 have HO := Own.nil w
 go_enter Tryz.func250, Tryz.ntmps250
 go_wp2_with (first | (go_at_call 283; (with_reducible refine cO.mono ?_); clear cO; rintro e w1 ⟨⟨N, rfl, hN⟩, hn⟩; replace HO := HO.then hn; clear hn; have HN := hid hN; clear hN) | (go_at_call 284; (with_reducible refine (cF _ _ HN.out).mono ?_); rintro e w1 ⟨rfl, hn⟩; replace HO := HO.then hn; clear hn))
 go_ret2
 exact ⟨rfl, HO.below⟩
theorem ncheck_own (G lo mg o cm : Nat) (w : World) (hG : GrIn G lo w) (h0 : w.cell? ⟨mg, o, none⟩ = some (.int .u8 0)) (h1 : w.cell? ⟨mg, o + 1, none⟩ = some (.int .i64 (-1))) (h2 : w.cell? ⟨mg, o + 2, none⟩ = some (.int .i64 (-1))) :
  Calls Tryz.prog 218 #[.pointer (some ⟨G, 0, none⟩), .slice (some ⟨mg, o, none⟩) 1 cm] w fun e w' => e = .returned (.agg #[.int .i64 0, .int .i64 0]) ∧ Below w.heap.size w w' := by
 have zm := block_lt_of_cell h0
 have cF : ∀ W, Below w.heap.size w W → Calls Tryz.prog 250 #[.pointer (some ⟨G, 0, none⟩), .slice (some ⟨mg, o, none⟩) 1 cm] W fun e w' => e = .returned (.tuple #[.slice none 0 0, .int .i64 0]) ∧ Below W.heap.size W w' := fun W hb => nflaws_own G lo mg o cm W (hG.below hb) (cell_last h0 zm hb) (cell_last h1 zm hb) (cell_last h2 zm hb)
 clear hG h0 h1 h2
 have HO := Own.nil w
 go_enter Tryz.func218, Tryz.ntmps218
 go_wp2_with (first | ((first | (with_reducible refine sp_al HO ?_; intro g hg; rw [← hg.out]; clear hg) | (with_reducible first | refine sp_sk HO ?_ | refine sp_skc HO ?_) | (refine sp_wk HO rfl 36 _ _ rfl rfl rfl (by kernel_rfl) (by rfl) (by simp [Value.oneCell']) ?_)); clear HO; (try clear kk); intro W' HO; (try simp only [zTz, zTs, zTa] at HO); (try have kk := HO.kk)) | (go_at_call 250; (with_reducible refine (cF _ HO.below).mono ?_); rintro e w1 ⟨rfl, hn⟩; replace HO := HO.then hn; clear hn; (try clear kk); (try simp only [zTz, zTs, zTa, zDs, zDz] at HO); (try have kk := HO.kk)))
 refine bodyPost_ret_by (res_row rfl _ _ _ 36 #[.int .i64 0, .int .i64 0] _ _ rfl (HO.blk 0 rfl) Tryz.underlying36 rfl infoSpt) rfl ?_
 exact ⟨rfl, HO.below⟩
end Go.Proofs.YtindnnbopaeklaaGreatDoor
namespace Go.Proofs.YtindnnbopaeklaaGreatDoor
set_option linter.unusedVariables false
set_option linter.unusedSimpArgs false
set_option maxRecDepth 100000
set_option maxHeartbeats 2000000
open Go.RowKit
theorem cutq_own (gen bound : Nat) (a : Option Addr) (cap : Nat) (l : List In) (t : Nat → Nat) (m : Nat) (W : World) (hS : Sl 4 InAt W a l) (hs : Sound bound l) (ht : OneFn l t m) :
  Calls Tryz.prog 54 #[.agg #[.int .u32 gen, .int .u32 bound, .slice a l.length cap]] W fun r w' => (∃ g c, r = .returned (.tuple #[.slice (some ⟨g, 0, none⟩) 1 c, .agg #[.int .i64 0, .int .i64 0]]) ∧ ∃ b2 c2, FnQ g b2 c2 (l.getD (t 8) noIn).res (l.getD (t 8 + 1) noIn).res (t 8 : Nat) (t 8 + 1 : Nat) (m + 1 : Nat) W.heap.size w') ∧ Below W.heap.size W w' := (cut_own2 gen bound _ cap l t m W hS hs ht).mono fun r w' h => by
  obtain ⟨⟨g, c, h1, h2⟩, h3⟩ := h
  obtain ⟨b2, c2, k1, k2, k3, k4, k5, k6⟩ := h2.c3
  exact ⟨⟨g, c, h1, b2, c2, h2.low, k2, ⟨h2.lt, h2.c0, h2.c1, h2.c2, k1, h2.c4⟩, ⟨rfl, k3, k4, k5, k6⟩⟩, h3⟩
theorem nmodule_own (gen bound : Nat) (b o cap : Nat) (l : List In) (sv : Nat → Option Addr × Nat) (t : Nat → Nat) (m : Nat) (w : World) (hM : Ms w b o l sv) (hs : Sound bound l) (ht : OneFn l t m) (hi : IdsOk l t) (he : EndsSo l m) :
  Calls Tryz.prog 171 #[.agg #[.int .u32 gen, .int .u32 bound, .slice (some ⟨b, o, none⟩) l.length cap]] w fun r w' => r = .returned (.agg #[.int .i64 0, .int .i64 0]) ∧ Below w.heap.size w w' := by
 have cI : ∀ W, Below w.heap.size w W → Calls Tryz.prog 89 #[.agg #[.int .u32 gen, .int .u32 bound, .slice (some ⟨b, o, none⟩) l.length cap]] W fun r w' => r = .returned (.agg #[.int .i64 0, .int .i64 0]) ∧ Below W.heap.size W w' := fun W hb => icheck_own gen bound b o cap l sv t m W (hM.below hb) hs ht hi
 have cC : ∀ W, Below w.heap.size w W → _ := fun W hb => cutq_own gen bound (some ⟨b, o, none⟩) cap l t m W (hM.below hb).back hs ht
 have cG : ∀ W b1 c1, Below w.heap.size w W → FvAt b1 c1 (l.getD (t 8) noIn).res (t 8 : Nat) (l.getD (t 8 + 1) noIn).res (t 8 + 1 : Nat) (m + 1 : Nat) (m + 1 : Nat) (.agg #[.int .u32 (l.getD (t 8) noIn).res, .int .i64 (t 8 : Nat), .slice none 0 0, .slice (some ⟨b1, 0, none⟩) 1 c1, .int .i64 (m + 1 : Nat)]) W → _ := fun W b1 c1 hb h1 => gnew_own gen bound b o cap l sv t m b1 c1 _ _ _ _ _ W (hM.below hb) (hM.below hb).back hs ht hi he rfl rfl rfl rfl rfl h1
 generalize (l.getD (t 8) noIn).res = id at cC cG
 generalize (l.getD (t 8 + 1) noIn).res = lab at cC cG
 obtain ⟨y, hy⟩ : ∃ y : Int, y = (t 8 : Nat) := ⟨_, rfl⟩
 obtain ⟨st, hst⟩ : ∃ y : Int, y = (t 8 + 1 : Nat) := ⟨_, rfl⟩
 obtain ⟨en, hen⟩ : ∃ y : Int, y = (m + 1 : Nat) := ⟨_, rfl⟩
 rw [← hy, ← hst, ← hen] at cC cG
 clear hM hs ht hi he hy hst hen
 generalize l.length = n at cI cC cG ⊢
 have HO := Own.nil w
 go_enter Tryz.func171, Tryz.ntmps171
 go_wp2_with (first | ((first | (with_reducible refine sp_al HO ?_; intro g hg; rw [← hg.out]; clear hg) | (with_reducible first | refine sp_sk HO ?_ | refine sp_skc HO ?_) | (refine sp_wk HO rfl 36 _ _ rfl rfl rfl (by kernel_rfl) (by rfl) (by simp [Value.oneCell']) ?_)); clear HO; (try clear kk); intro W' HO; (try simp only [zTz, zTs, zTa] at HO); (try have kk := HO.kk)) | (go_at_call 89; (with_reducible refine (cI _ HO.below).mono ?_); rintro e w1 ⟨rfl, hn1⟩; replace HO := HO.then hn1; clear hn1; (try clear kk); (try simp only [zTz, zTs, zTa, zDs, zDz] at HO); (try have kk := HO.kk)) |
  (go_at_call 54; (with_reducible refine (cC _ HO.below).mono ?_); rintro e w1 ⟨⟨g, c, rfl, b2, c2, q⟩, hn1⟩; replace HO := HO.deep hn1 q; clear hn1 q; (try clear kk); (try simp only [zTz, zTs, zTa, zDs, zDz] at HO); (try have kk := HO.kk)))
 refine wp_loop_rounds 2 ?_
 rw [rounds_succ]
 clear cI cC
 have q := (HO.at 1 rfl : DeepAt _ _ _ _).out (fnkeeps _ _ _ _ _ _ _ _)
 obtain ⟨zg, q0, q1, q2, q3, q4⟩ := q.mem
 have HQ := hid q
 have cK := fun G mg cm W (hG : GrIn G w.heap.size W) h0 h1 h2 => ncheck_own G _ mg 0 cm W hG h0 h1 h2
 clear q
 go_wp2_with (first | ((first | (with_reducible refine sp_al HO ?_; intro g hg; rw [← hg.out]; clear hg) | (with_reducible first | refine sp_sk HO ?_ | refine sp_skc HO ?_) | (refine sp_wk HO rfl 94 _ _ rfl rfl rfl (by kernel_rfl) (by rfl) (by simp [Value.oneCell']) ?_)); clear HO; (try clear kk); intro W' HO; (try simp only [zTz, zTs, zTa] at HO); (try have kk := HO.kk)) | (refine sp_lk HO rfl 28 _ rfl rfl _ Tryz.underlying28 rfl (by kernel_rfl) ?_) | (refine sp_lk HO rfl 94 _ rfl rfl _ Tryz.underlying94 rfl (by kernel_rfl) ?_))
 have q := (HO.at 2 rfl : DeepAt _ _ _ _).out (fnkeeps _ _ _ _ _ _ _ _)
 refine (cG W' b2 c2 HO.below q.at_).mono ?_
 rintro e w1 ⟨⟨G, mg, cm, rfl, hG⟩, hn1⟩
 clear q HQ
 replace HO := HO.deep hn1 hG
 clear hn1 cG zg q0 q1 q2 q3 q4 hG
 (try clear kk)
 (try simp only [zTz, zTs, zTa, zDs, zDz] at HO); (try have kk := HO.kk)
 go_wp2_with (first | ((first | (with_reducible refine sp_al HO ?_; intro g hg; rw [← hg.out]; clear hg) | (with_reducible first | refine sp_sk HO ?_ | refine sp_skc HO ?_) | (refine sp_wk HO rfl 36 _ _ rfl rfl rfl (by kernel_rfl) (by rfl) (by simp [Value.oneCell']) ?_)); clear HO; (try clear kk); intro W' HO; (try simp only [zTz, zTs, zTa] at HO); (try have kk := HO.kk)))
 have q := (HO.at 1 rfl : DeepAt _ _ _ _).out (GnE.keeps _ _)
 refine (ncheck_own G _ mg 0 cm W' q.gr q.h0 q.h1 q.h2).mono ?_
 clear q
 rintro e w1 ⟨rfl, hn1⟩
 replace HO := HO.then hn1
 clear hn1
 (try clear kk)
 (try simp only [zTz, zTs, zTa, zDs, zDz] at HO); (try have kk := HO.kk)
 go_wp2_with (first | ((first | (with_reducible refine sp_al HO ?_; intro g hg; rw [← hg.out]; clear hg) | (with_reducible first | refine sp_sk HO ?_ | refine sp_skc HO ?_) | (refine sp_wk HO rfl 36 _ _ rfl rfl rfl (by kernel_rfl) (by rfl) (by simp [Value.oneCell']) ?_)); clear HO; (try clear kk); intro W' HO; (try simp only [zTz, zTs, zTa] at HO); (try have kk := HO.kk)))
 rw [rounds_succ]
 have HO := HO.drop 4
 simp only [List.drop_succ_cons, List.drop_zero] at HO
 (try clear kk)
 (try simp only [zTz, zTs, zTa, zDs, zDz] at HO); (try have kk := HO.kk)
 go_wp2_with (first | ((first | (with_reducible refine sp_al HO ?_; intro g hg; rw [← hg.out]; clear hg) | (with_reducible first | refine sp_sk HO ?_ | refine sp_skc HO ?_) | (refine sp_wk HO rfl 36 _ _ rfl rfl rfl (by kernel_rfl) (by rfl) (by simp [Value.oneCell']) ?_)); clear HO; (try clear kk); intro W' HO; (try simp only [zTz, zTs, zTa] at HO); (try have kk := HO.kk)))
 refine bodyPost_ret_by (res_row rfl _ _ _ 36 #[.int .i64 0, .int .i64 0] _ _ rfl (HO.blk 3 rfl) Tryz.underlying36 rfl infoSpt) rfl ?_
 exact ⟨rfl, HO.below⟩
end Go.Proofs.YtindnnbopaeklaaGreatDoor
