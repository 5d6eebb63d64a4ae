/- Typing: started. -/
import Derived.Test.YtindnnbopaeklaaGreatDoorBa
import Derived.Test.YtindnnbopaeklaaGreatDoorBc
namespace Go.Proofs.YtindnnbopaeklaaGreatDoor
set_option linter.unusedVariables false
set_option linter.unusedSimpArgs false
set_option maxRecDepth 100000
set_option maxHeartbeats 4000000
open Go.RowKit Go.MapKept
def fmF (l : List In) : Nat → Nat → Option Nat
 | 0 => fun _ => none
 | k + 1 => if (l.getD k noIn).res = 0 then fmF l k else kup (fmF l k) (l.getD k noIn).res k
def encJ (l : List In) (sv : Nat → Option Addr × Nat) (j : Nat) : Value := inV (l.getD j noIn) (sv j)
theorem tystart_own (gen bound : Nat) (b o cap : Nat) (l : List In) (sv : Nat → Option Addr × Nat) (tab : Nat → Option TyD) (vs : Nat → Option (Nat × Nat × Nat)) (w : World) (hM : Ms w b o l sv) (hn : l.length ≤ 2000)
  (cN : ∀ W, Below w.heap.size w W → Calls Tryz.prog 53 #[.agg #[.int .u32 gen, .int .u32 bound, .slice (some ⟨b, o, none⟩) l.length cap]] W fun r w' => (∃ P T, r = .returned (.tuple #[.pointer (some ⟨P, 0, none⟩), .agg #[.int .i64 0, .int .i64 0]]) ∧ PlIn W.heap.size P T tab vs w') ∧ Below W.heap.size W w') :
  Calls Tryz.prog 223 #[.agg #[.int .u32 gen, .int .u32 bound, .slice (some ⟨b, o, none⟩) l.length cap]] w fun r w' => ∃ K P T mk lo hi, r = .returned (.tuple #[.pointer (some ⟨K, 0, none⟩), .agg #[.int .i64 0, .int .i64 0]]) ∧ Own noX w [cls K #[.pointer (some ⟨T, 0, none⟩), .pointer (some ⟨P, 0, none⟩), .slice (some ⟨b, o, none⟩) l.length cap, .map (some mk), .int .u32 0] 299, mpA (.int .u32) keyU (encJ l sv) mk (fmF l l.length), deep lo hi (fun lo W => PlIn lo P T tab vs W)] w' := by
 have HM := hid hM
 clear hM
 have HO := Own.nil w
 have hmm := @run_makeMap Tryz.prog
 go_enter Tryz.func223, Tryz.ntmps223
 go_wp2_with (first | ((first | (with_reducible refine sp_al HO ?_; clear HO; (try clear kk); intro g hg W' HO; rw [← hg.out]; clear hg) | (with_reducible refine sp_sk HO ?_; clear HO; (try clear kk); intro W' HO) | (with_reducible refine sp_skc HO ?_; clear HO; (try clear kk); intro W' HO) | (refine sp_wk HO rfl 36 _ _ rfl rfl rfl (by kernel_rfl) (by rfl) (by simp [Value.oneCell']) ?_; clear HO; (try clear kk); intro W' HO)); (try simp only [zTz, zTs, zTa] at HO); (try have kk := HO.kk)) | (go_at_call 53; (with_reducible refine (cN _ HO.below).mono ?_); rintro e w1 ⟨⟨gP, gT, rfl, hq⟩, hn1⟩; replace HO := HO.deep (P := fun lo W => PlIn lo gP gT tab vs W) hn1 hq; clear hn1 hq; (try clear kk); (try simp only [zTz, zTs, zTa, zDs, zDz] at HO); (try have kk := HO.kk)))
 clear cN
 (try clear kk)
 rename_i gMod V1 gSp3 V2 V4 K1 a1
 obtain ⟨gSp, rfl⟩ : ∃ q, q = g := ⟨_, rfl⟩
 obtain ⟨lo, hlo⟩ : ∃ lo, Hid (lo = V2.heap.size) := ⟨_, hid rfl⟩
 obtain ⟨hi, hhi⟩ : ∃ hi, Hid (hi = w1.heap.size) := ⟨_, hid rfl⟩
 rw [← hlo.out, ← hhi.out] at HO
 clear hlo hhi
 have cT : ∀ W, W.cell? ⟨gP, 0, none⟩ = some (.pointer (some ⟨gT, 0, none⟩)) → Calls Tryz.prog 55 #[.pointer (some ⟨gP, 0, none⟩)] W fun e w' => e = .returned (.pointer (some ⟨gT, 0, none⟩)) ∧ w' = W := fun W h => ctypes_own gP gT W h
 have mkO : ∀ (W : World) (i j : Nat) (L : List As), Own noX w L W → L[i]? = some (deep lo hi (fun lo W => PlIn lo gP gT tab vs W)) → L[j]? = some (cls gMod #[.int .u32 gen, .int .u32 bound, .slice (some ⟨b, o, none⟩) l.length cap] 28) → W.cell? ⟨gP, 0, none⟩ = some (.pointer (some ⟨gT, 0, none⟩)) ∧ W.cell? ⟨gMod, 2, none⟩ = some (.slice (some ⟨b, o, none⟩) l.length cap) := fun W i j L h h1 h2 => by
  obtain ⟨mv, fv, Dm, -, -, -, h4, -⟩ := ((h.at i h1 : DeepAt _ _ _ W).out (PlIn.keeps gP gT tab vs)).at_
  exact ⟨h4, h.cell j 2 h2 rfl⟩
 have HO3 := HO
 clear HO
 have hmm := @run_makeMap Tryz.prog
 go_cut [6] from 18 (fun s6 wx => ∃ gK gmk, s6 = .pointer (some ⟨gK, 0, none⟩) ∧ Own noX w [cls gK #[.pointer (some ⟨gT, 0, none⟩), .pointer (some ⟨gP, 0, none⟩), .slice (some ⟨b, o, none⟩) l.length cap, .map (some gmk), .int .u32 0] 299, blk gmk (.map #[] 0), cls gSp #[.int .i64 0, .int .i64 0] 36, deep lo hi (fun lo W => PlIn lo gP gT tab vs W), cls gSp3 #[.int .i64 0, .int .i64 0] 36, cls gMod #[.int .u32 gen, .int .u32 bound, .slice (some ⟨b, o, none⟩) l.length cap] 28] wx)
 case first =>
  go_region_held3 (fun W => W.cell? ⟨gP, 0, none⟩ = some (.pointer (some ⟨gT, 0, none⟩)) ∧ W.cell? ⟨gMod, 2, none⟩ = some (.slice (some ⟨b, o, none⟩) l.length cap))
   (first | exact mkO _ 1 3 _ HO3.drew rfl rfl | exact mkO _ 2 4 _ (HO3.drew.alloc _) rfl rfl | exact mkO _ 3 5 _ ((HO3.drew.alloc _).alloc _) rfl rfl | exact mkO _ 1 3 _ HO3 rfl rfl | exact mkO _ 2 4 _ (HO3.alloc _).drew rfl rfl | exact mkO _ 3 5 _ ((HO3.alloc _).alloc _).drew rfl rfl)
   (first | (go_at_call 55; (with_reducible refine (cT _ (by first | exact (mkO _ 1 3 _ HO3.drew rfl rfl).1 | exact (mkO _ 2 4 _ (HO3.drew.alloc _) rfl rfl).1 | exact (mkO _ 2 4 _ (HO3.alloc _).drew rfl rfl).1)).mono ?_); rintro e w2 ⟨rfl, rfl⟩))
  all_goals
   go_wp2_with fail
   go_meet
   have H2 := (HO3.alloc (.map #[] 0)).alloc (.cells #[.pointer (some ⟨gT, 0, none⟩), .pointer (some ⟨gP, 0, none⟩), .slice (some ⟨b, o, none⟩) l.length cap, .map (some W'.heap.size), .int .u32 0] 299 (0, 0))
   simp only [World.size_alloc] at H2
   exact ⟨_, _, rfl, H2.drew⟩
 case rest =>
 obtain ⟨gK, gmk, rfl, HO⟩ := hcut
 clear HO3 mkO cT hmm
 replace HO := HO.recast 1 (A' := mpA (.int .u32) keyU (encJ l sv) gmk (fun _ => none)) rfl (fun k hk => hk) (mp_new (HO.blk 1 rfl))
 simp only [List.set_cons_zero, List.set_cons_succ] at HO
 obtain ⟨L0, hL0⟩ : ∃ L0, Hid (L0 = [cls gSp #[.int .i64 0, .int .i64 0] 36, deep lo hi (fun lo W => PlIn lo gP gT tab vs W), cls gSp3 #[.int .i64 0, .int .i64 0] 36, cls gMod #[.int .u32 gen, .int .u32 bound, .slice (some ⟨b, o, none⟩) l.length cap] 28]) := ⟨_, hid rfl⟩
 (try simp only [zTz, zTs, zTa, zDs, zDz] at HO); (try have kk := HO.kk)
 go_wp2_with fail
 (try clear kk)
 rw [← hL0.out] at HO
 have H0 : Hid (Own noX w (cls gK #[.pointer (some ⟨gT, 0, none⟩), .pointer (some ⟨gP, 0, none⟩), .slice (some ⟨b, o, none⟩) l.length cap, .map (some gmk), .int .u32 0] 299 :: mpA (.int .u32) keyU (encJ l sv) gmk (fmF l 0) :: L0) wc) := hid HO
 clear HO
 go_loopw [8, 29] (fun _ x29 wr => ∃ k : Nat, k ≤ l.length ∧ x29 = .int .i64 k ∧ Own noX w (cls gK #[.pointer (some ⟨gT, 0, none⟩), .pointer (some ⟨gP, 0, none⟩), .slice (some ⟨b, o, none⟩) l.length cap, .map (some gmk), .int .u32 0] 299 :: mpA (.int .u32) keyU (encJ l sv) gmk (fmF l k) :: L0) wr) (fun _ x _ => l.length - (intOf x).toNat)
 case atStart => exact ⟨0, by omega, rfl, H0.out⟩
 case round =>
  obtain ⟨k, hk, rfl, HO⟩ := hrel
  clear H0
  rw [hL0.out] at HO
  by_cases hlt : k < l.length
  ·have hMM := HM.out.below HO.below
   have e0 := hMM.op k hlt
   have e1 := hMM.ty k hlt
   have e2 := hMM.res k hlt
   have e3 := hMM.args k hlt
   have zb := hMM.lt
   have hgd := getD_at l hlt
   have HE : Hid (encJ l sv k = inV l[k] (sv k)) := hid (by unfold encJ; rw [hgd])
   have hfm : Hid (fmF l (k + 1) = if l[k].res = 0 then fmF l k else kup (fmF l k) l[k].res k) := hid (by simp only [fmF, hgd])
   have HLT := hid hlt
   clear hMM hgd
   have i2 : (k : Int) < l.length := by omega
   generalize l[k] = i at e0 e1 e2 e3 HE hfm
   generalize sv k = s at e3 HE
   clear hlt
   obtain ⟨sa, sc⟩ := s
   simp only at e3
   by_cases hr : i.res = 0
   ·rw [if_pos hr] at hfm
    (try simp only [zTz, zTs, zTa, zDs, zDz] at HO); (try have kk := HO.kk)
    go_wp2_with (first | ((first | (with_reducible refine sp_al HO ?_; clear HO; (try clear kk); intro g hg W' HO; rw [← hg.out]; clear hg) | (with_reducible refine sp_sk HO ?_; clear HO; (try clear kk); intro W' HO) | (with_reducible refine sp_skc HO ?_; clear HO; (try clear kk); intro W' HO) | (refine sp_wk HO rfl 43 _ _ rfl rfl rfl (by kernel_rfl) (by rfl) (by simp [Value.oneCell']) ?_; clear HO; (try clear kk); intro W' HO)); (try simp only [zTz, zTs, zTa] at HO); (try have kk := HO.kk)))
    exact ⟨⟨k + 1, HLT.out, by go_num, by rw [hfm.out, hL0.out]; exact HO.drop 1⟩, by have := HLT.out; simp [intOf]; omega⟩
   ·rw [if_neg hr] at hfm
    (try simp only [zTz, zTs, zTa, zDs, zDz] at HO); (try have kk := HO.kk)
    go_wp2_with (first | ((first | (with_reducible refine sp_al HO ?_; clear HO; (try clear kk); intro g hg W' HO; rw [← hg.out]; clear hg) | (with_reducible refine sp_sk HO ?_; clear HO; (try clear kk); intro W' HO) | (with_reducible refine sp_skc HO ?_; clear HO; (try clear kk); intro W' HO) | (refine sp_wk HO rfl 43 _ _ rfl rfl rfl (by kernel_rfl) (by rfl) (by simp [Value.oneCell']) ?_; clear HO; (try clear kk); intro W' HO)); (try simp only [zTz, zTs, zTa] at HO); (try have kk := HO.kk)))
    obtain ⟨gI, rfl⟩ : ∃ q, q = g := ⟨_, rfl⟩
    have nK : gK ≠ gmk := Ne.symm (HO.neDom 2 1 rfl rfl (by omega) rfl)
    have nI : gI ≠ gmk := Ne.symm (HO.neDom 2 0 rfl rfl (by omega) rfl)
    have zK := HO.lt 1 rfl
    have zI := HO.lt 0 rfl
    obtain ⟨o2, hup, hm2⟩ := Mp.put (HO.drew.at 2 rfl) keysU Tryz.underlying161 Tryz.underlying23 i.res (inV i (sa, sc)) k (fun _ _ _ h => h) (fun _ => HE.out.symm)
    have hup2 : (Instr.mapUpdate 161 (.map (some gmk)) (.int .u32 i.res) (.agg #[.int .u16 i.op, .int .u32 i.ty, .int .u32 i.res, .slice sa i.args.length sc])).run Tryz.prog W'.drew = .ok () (putMap W'.drew gmk o2) := hup
    have O0 := Only.refl gmk W'
    (try replace kk := kk.2)
    refine wp_region_held_drew (S := fun W => (∀ b j, b < W'.heap.size → b ≠ gmk → W.cell? ⟨b, j, none⟩ = W'.cell? ⟨b, j, none⟩) ∧ Only gmk W' W) (by kernel_rfl) (mkX gmk W' _ (only_drew O0)) (fun hHeld => ?_)
    refine hTp 0 ?_
    refine hTp 1 ?_
    refine hTp 2 ?_
    refine hTp 3 ?_
    refine hTp 4 ?_
    refine hTp 5 ?_
    refine hTp 6 ?_
    refine wpAnyH_ready (rs := [7]) (by kernel_rfl) (by simp) ?_
    refine AllReadyH.cons (by simp only [zGa, zGs, zGz]; rfl) (fun K hK => ?_) AllReadyH.nil
    go_simp
    refine hK.out _ _ ?_ (fun hHeld => ?_)
    ·(refine mkX gmk W' _ ?_; repeat (first | exact O0 | refine only_drew ?_ | refine only_set ?_ | refine only_row ?_ | refine only_map ?_ | refine only_al ?_ _ | refine only_call ?_ hn1.out | refine only_setc ?_ (by first | assumption | omega)))
    clear hK K
    try simp only [Act.put, zTa, zTz, zTs]
    refine wpAnyH_done (by kernel_rfl) ?_ _
    refine sp_exit (HO.drew.map 2 o2 rfl hm2) ?_
    clear hup hup2 hm2 O0 HO nK nI zK zI
    intro W' HO
    simp only [List.set_cons_zero, List.set_cons_succ] at HO
    (try clear kk)
    go_wp2_with fail
    exact ⟨⟨k + 1, HLT.out, by go_num, by rw [hfm.out, hL0.out]; exact HO.drop 1⟩, by have := HLT.out; simp [intOf]; omega⟩
  ·obtain rfl : k = l.length := by omega
   have i2 : ¬ ((l.length : Nat) : Int) < l.length := by omega
   (try simp only [zTz, zTs, zTa, zDs, zDz] at HO); (try have kk := HO.kk)
   have n5 : gSp ≠ gSp3 := HO.ne 2 4 rfl rfl (by omega)
   have z5 := HO.lt 2 rfl
   have z3 := HO.lt 4 rfl
   go_wp2_with fail
   go_region
   go_wp2_with fail
   trace_state
   have H := ((HO.set 4 0 (.int .i64 0) rfl).set 4 1 (.int .i64 0) rfl).drew
   refine bodyPost_ret_by (res_tmp_row rfl _ _ _ 36 #[.int .i64 0, .int .i64 0] _ _ rfl (H.blk 4 rfl) Tryz.underlying36 rfl infoSpt) rfl ?_
   exact ⟨_, _, _, _, _, _, rfl, H.sub (.cons_cons _ (.cons_cons _ (.cons _ (.cons_cons _ (.cons _ (.cons _ .slnil))))))⟩
def backK (l : List In) : Nat → Nat
 | 0 => 0
 | k + 1 => if (l.getD k noIn).op = 54 then (l.getD k noIn).ty else backK l k
def ckL (w : World) (K T P mk b o cap lo hi : Nat) (l : List In) (sv : Nat → Option Addr × Nat) (tab : Nat → Option TyD) (vs : Nat → Option (Nat × Nat × Nat)) (back : Nat) (L : List As) : List As :=
 cls K #[.pointer (some ⟨T, 0, none⟩), .pointer (some ⟨P, 0, none⟩), .slice (some ⟨b, o, none⟩) l.length cap, .map (some mk), .int .u32 back] 299 :: mpA (.int .u32) keyU (encJ l sv) mk (fmF l l.length) :: deep lo hi (fun lo W => PlIn lo P T tab vs W) :: L
theorem ckr_of {w W : World} {K T P mk b o cap lo hi back : Nat} {l : List In} {sv : Nat → Option Addr × Nat} {tab : Nat → Option TyD} {vs : Nat → Option (Nat × Nat × Nat)} {L : List As} (h : Own noX w (ckL w K T P mk b o cap lo hi l sv tab vs back L) W) (hm : Ms w b o l sv) : Ckr K T mk b o cap back l sv (fmF l l.length) tab W :=
 ⟨h.cell 0 0 rfl rfl, h.cell 0 2 rfl rfl, h.cell 0 3 rfl rfl, h.cell 0 4 rfl rfl, h.at 1 rfl, hm.below h.below, ⟨lo, (DeepAt.out (h.at 2 rfl : DeepAt _ _ _ W) (PlIn.keeps P T tab vs)).tb⟩⟩
theorem tycheck_own (gen bound : Nat) (b o cap : Nat) (l : List In) (sv : Nat → Option Addr × Nat) (tab : Nat → Option TyD) (vs : Nat → Option (Nat × Nat × Nat)) (kb : Nat) (w : World) (hM : Ms w b o l sv) (hn : l.length ≤ 2000) (hkb : kb ≤ l.length)
  (cN : ∀ W, Below w.heap.size w W → Calls Tryz.prog 53 #[.agg #[.int .u32 gen, .int .u32 bound, .slice (some ⟨b, o, none⟩) l.length cap]] W fun r w' => (∃ P T, r = .returned (.tuple #[.pointer (some ⟨P, 0, none⟩), .agg #[.int .i64 0, .int .i64 0]]) ∧ PlIn W.heap.size P T tab vs w') ∧ Below W.heap.size W w')
  (cF : ∀ k (h : k < l.length), k ≤ kb → ∀ K T mk W, Ckr K T mk b o cap (backK l (k + 1)) l sv (fmF l l.length) tab W → Calls Tryz.prog 224 #[.pointer (some ⟨K, 0, none⟩), .int .i64 k] W fun e w' => e = .returned (.bool (decide (k < kb))) ∧ Below W.heap.size W w') :
  Calls Tryz.prog 174 #[.agg #[.int .u32 gen, .int .u32 bound, .slice (some ⟨b, o, none⟩) l.length cap]] w fun r w' => r = .returned (if kb = l.length then .agg #[.int .i64 0, .int .i64 0] else .agg #[.int .i64 180, .int .i64 kb]) ∧ Below w.heap.size w w' := by
 have HO := Own.nil w
 have cS : ∀ W, Below w.heap.size w W → _ := fun W hb => tystart_own gen bound b o cap l sv tab vs W (hM.below hb) hn (fun W2 hb2 => cN W2 (bcall hb hb2))
 have HM := hid hM
 have HF := hid cF
 clear hM cN cF
 obtain ⟨r0, hr0⟩ : ∃ r0, Hid (r0 = (if kb = l.length then Value.agg #[.int .i64 0, .int .i64 0] else Value.agg #[.int .i64 180, .int .i64 kb])) := ⟨_, hid rfl⟩
 rw [← hr0.out]
 go_enter Tryz.func174, Tryz.ntmps174
 go_wp2_with (first | ((first | (with_reducible refine sp_al HO ?_; intro g hg; rw [← hg.out]; clear hg) | (with_reducible first | refine sp_sk HO ?_ | refine sp_skc HO ?_) | (refine sp_wk HO rfl 36 _ _ rfl rfl rfl (by kernel_rfl) (by rfl) (by simp [Value.oneCell']) ?_)); clear HO; (try clear kk); intro W' HO; (try simp only [zTz, zTs, zTa] at HO); (try have kk := HO.kk)) | (go_at_call 223; refine (cS _ HO.below).mono ?_; rintro e w1 ⟨gK, gP, gT, gmk, lo, hi, rfl, h2⟩; replace HO := HO.app h2; clear h2; simp only [List.cons_append, List.nil_append] at HO; (try clear kk); (try simp only [zTz, zTs, zTa, zDs, zDz] at HO); (try have kk := HO.kk)))
 (try clear kk)
 clear cS
 rename_i gMod V1 gR V2 V3 K1 a1
 obtain ⟨gSp, rfl⟩ : ∃ q, q = g := ⟨_, rfl⟩
 replace HO := HO.pull 5 rfl
 simp only [List.eraseIdx_cons_zero, List.eraseIdx_cons_succ] at HO
 replace HO := HO.pull 5 rfl
 simp only [List.eraseIdx_cons_zero, List.eraseIdx_cons_succ] at HO
 replace HO := HO.pull 2 rfl
 simp only [List.eraseIdx_cons_zero, List.eraseIdx_cons_succ] at HO
 replace HO := HO.pull 5 rfl
 simp only [List.eraseIdx_cons_zero, List.eraseIdx_cons_succ] at HO
 replace HO := HO.pull 5 rfl
 simp only [List.eraseIdx_cons_zero, List.eraseIdx_cons_succ] at HO
 replace HO := HO.pull 5 rfl
 simp only [List.eraseIdx_cons_zero, List.eraseIdx_cons_succ] at HO
 obtain ⟨L0, hL0⟩ : ∃ L0, Hid (L0 = [cls gSp #[.int .i64 0, .int .i64 0] 36, cls gR #[.int .i64 0, .int .i64 0] 36, cls gMod #[.int .u32 gen, .int .u32 bound, .slice (some ⟨b, o, none⟩) l.length cap] 28]) := ⟨_, hid rfl⟩
 have H0 : Hid (Own noX w (ckL w gK gT gP gmk b o cap lo hi l sv tab vs (backK l 0) L0) W') := hid (by rw [hL0.out]; exact HO)
 clear HO
 go_loopw [5, 6, 19] (fun _ _ x19 wr => ∃ k : Nat, k ≤ l.length ∧ k ≤ kb ∧ x19 = .int .i64 k ∧ Own noX w (ckL w gK gT gP gmk b o cap lo hi l sv tab vs (backK l k) L0) wr) (fun _ _ x _ => l.length - (intOf x).toNat)
 case atStart => exact ⟨0, by omega, by omega, rfl, H0.out⟩
 case round =>
  obtain ⟨k, hk, hkk, rfl, HO⟩ := hrel
  clear H0
  rw [hL0.out] at HO
  by_cases hlt : k < l.length
  ·have hMM := HM.out.below HO.below
   have e0 := hMM.op k hlt
   have e1 := hMM.ty k hlt
   have e2 := hMM.res k hlt
   have e3 := hMM.args k hlt
   have zb := hMM.lt
   have hgd := getD_at l hlt
   have hbk : Hid (backK l (k + 1) = if l[k].op = 54 then l[k].ty else backK l k) := hid (by simp only [backK, hgd])
   have cF := HF.out k hlt hkk
   have HLT := hid hlt
   have HKK := hid hkk
   clear hMM hgd
   have i2 : (k : Int) < l.length := by omega
   generalize l[k] = i at e0 e1 e2 e3 hbk
   generalize sv k = s at e3
   clear hlt hkk
   obtain ⟨sa, sc⟩ := s
   simp only at e3
   unfold ckL at HO
   by_cases h54 : i.op = 54
   ·rw [if_pos h54] at hbk
    have i3 : ((i.op : Int) == 54) = true := by rw [beq_iff_eq]; omega
    (try simp only [zTz, zTs, zTa, zDs, zDz] at HO); (try have kk := HO.kk)
    go_wp2_with (first | ((first | (with_reducible refine sp_al HO ?_; intro g hg; rw [← hg.out]; clear hg) | (with_reducible first | refine sp_sk HO ?_ | refine sp_skc HO ?_) | (refine sp_wk HO rfl 43 _ _ rfl rfl rfl (by kernel_rfl) (by rfl) (by simp [Value.oneCell']) ?_)); clear HO; (try clear kk); intro W' HO; (try simp only [zTz, zTs, zTa] at HO); (try have kk := HO.kk)))
    have HP := HO.drop 1
    simp only [List.drop_succ_cons, List.drop_zero] at HP
    rw [← hbk.out] at HP
    have cc := cF gK gT gmk W' (ckr_of (L := [cls gSp #[.int .i64 0, .int .i64 0] 36, cls gR #[.int .i64 0, .int .i64 0] 36, cls gMod #[.int .u32 gen, .int .u32 bound, .slice (some ⟨b, o, none⟩) l.length cap] 28]) HP HM.out)
    clear HP
    by_cases hkq : k < kb
    ·rw [decide_eq_true hkq] at cc
     refine cc.mono ?_
     clear cc
     rintro e w2 ⟨rfl, hn1⟩
     replace HO := HO.then hn1
     clear hn1
     rw [← hbk.out] at HO
     go_wp2_with fail
     exact ⟨⟨k + 1, HLT.out, hkq, by go_num, by rw [hL0.out]; exact HO.drop 1⟩, by have := HLT.out; simp [intOf]; omega⟩
    ·rw [decide_eq_false hkq] at cc
     refine cc.mono ?_
     clear cc
     rintro e w2 ⟨rfl, hn1⟩
     replace HO := HO.then hn1
     clear hn1
     have hr : r0 = .agg #[.int .i64 180, .int .i64 k] := by
      have q1 := HLT.out
      have q2 := HKK.out
      obtain rfl : k = kb := by omega
      rw [hr0.out, if_neg (by omega)]
     (try clear kk)
     (try simp only [zTz, zTs, zTa, zDs, zDz] at HO); (try have kk := HO.kk)
     go_wp2_with (first | ((first | (with_reducible first | refine sp_sk HO ?_ | refine sp_skc HO ?_) | (refine sp_wk HO rfl 36 _ _ rfl rfl rfl (by kernel_rfl) (by rfl) (by simp [Value.oneCell']) ?_)); clear HO; (try clear kk); intro W' HO; (try simp only [zTz, zTs, zTa] at HO); (try have kk := HO.kk)))
     refine bodyPost_ret_by (res_row rfl _ _ _ 36 #[.int .i64 180, .int .i64 k] _ _ rfl (HO.blk 5 rfl) Tryz.underlying36 rfl infoSpt) rfl ?_
     exact ⟨hr.symm ▸ rfl, HO.below⟩
   ·rw [if_neg h54] at hbk
    have i3 : ((i.op : Int) == 54) = false := by rw [beq_eq_false_iff_ne]; omega
    (try simp only [zTz, zTs, zTa, zDs, zDz] at HO); (try have kk := HO.kk)
    go_wp2_with (first | ((first | (with_reducible refine sp_al HO ?_; intro g hg; rw [← hg.out]; clear hg) | (with_reducible first | refine sp_sk HO ?_ | refine sp_skc HO ?_) | (refine sp_wk HO rfl 43 _ _ rfl rfl rfl (by kernel_rfl) (by rfl) (by simp [Value.oneCell']) ?_)); clear HO; (try clear kk); intro W' HO; (try simp only [zTz, zTs, zTa] at HO); (try have kk := HO.kk)))
    have HP := HO.drop 1
    simp only [List.drop_succ_cons, List.drop_zero] at HP
    rw [← hbk.out] at HP
    have cc := cF gK gT gmk W' (ckr_of (L := [cls gSp #[.int .i64 0, .int .i64 0] 36, cls gR #[.int .i64 0, .int .i64 0] 36, cls gMod #[.int .u32 gen, .int .u32 bound, .slice (some ⟨b, o, none⟩) l.length cap] 28]) HP HM.out)
    clear HP
    by_cases hkq : k < kb
    ·rw [decide_eq_true hkq] at cc
     refine cc.mono ?_
     clear cc
     rintro e w2 ⟨rfl, hn1⟩
     replace HO := HO.then hn1
     clear hn1
     rw [← hbk.out] at HO
     go_wp2_with fail
     exact ⟨⟨k + 1, HLT.out, hkq, by go_num, by rw [hL0.out]; exact HO.drop 1⟩, by have := HLT.out; simp [intOf]; omega⟩
    ·rw [decide_eq_false hkq] at cc
     refine cc.mono ?_
     clear cc
     rintro e w2 ⟨rfl, hn1⟩
     replace HO := HO.then hn1
     clear hn1
     have hr : r0 = .agg #[.int .i64 180, .int .i64 k] := by
      have q1 := HLT.out
      have q2 := HKK.out
      obtain rfl : k = kb := by omega
      rw [hr0.out, if_neg (by omega)]
     (try clear kk)
     (try simp only [zTz, zTs, zTa, zDs, zDz] at HO); (try have kk := HO.kk)
     go_wp2_with (first | ((first | (with_reducible first | refine sp_sk HO ?_ | refine sp_skc HO ?_) | (refine sp_wk HO rfl 36 _ _ rfl rfl rfl (by kernel_rfl) (by rfl) (by simp [Value.oneCell']) ?_)); clear HO; (try clear kk); intro W' HO; (try simp only [zTz, zTs, zTa] at HO); (try have kk := HO.kk)))
     refine bodyPost_ret_by (res_row rfl _ _ _ 36 #[.int .i64 180, .int .i64 k] _ _ rfl (HO.blk 5 rfl) Tryz.underlying36 rfl infoSpt) rfl ?_
     exact ⟨hr.symm ▸ rfl, HO.below⟩
  ·obtain rfl : k = l.length := by omega
   have hr : r0 = .agg #[.int .i64 0, .int .i64 0] := by rw [hr0.out, if_pos (by omega)]
   have i2 : ¬ ((l.length : Nat) : Int) < l.length := by omega
   unfold ckL at HO
   (try simp only [zTz, zTs, zTa, zDs, zDz] at HO); (try have kk := HO.kk)
   go_wp2_with (first | ((first | (with_reducible first | refine sp_sk HO ?_ | refine sp_skc HO ?_) | (refine sp_wk HO rfl 36 _ _ rfl rfl rfl (by kernel_rfl) (by rfl) (by simp [Value.oneCell']) ?_)); clear HO; (try clear kk); intro W' HO; (try simp only [zTz, zTs, zTa] at HO); (try have kk := HO.kk)))
   refine bodyPost_ret_by (res_row rfl _ _ _ 36 #[.int .i64 0, .int .i64 0] _ _ rfl (HO.blk 4 rfl) Tryz.underlying36 rfl infoSpt) rfl ?_
   exact ⟨hr.symm ▸ rfl, HO.below⟩
end Go.Proofs.YtindnnbopaeklaaGreatDoor
