/- Consts: New. -/
import Derived.Test.YtbhijdmlonplgaaGreatDoorAz
namespace Go.Proofs.YtbhijdmlonplgaaGreatDoor
set_option linter.unusedVariables false
set_option linter.unusedSimpArgs false
set_option maxRecDepth 100000
set_option maxHeartbeats 4000000
open Go.RowKit Go.MapKept
theorem TbIn.lower {lo lo' T : Nat} {tab : Nat → Option TyD} {W : World} (h : TbIn lo T tab W) (hl : lo' ≤ lo) : TbIn lo' T tab W := by
 obtain ⟨al, f, Dm, h1, h2, h3, h4⟩ := h.at_
 exact ⟨al, f, Dm, by omega, by omega, fun k hk => Nat.le_trans hl (h3 k hk), h4⟩
theorem holds_in (lo P T ty res p ab ao ac c : Nat) (tab : Nat → Option TyD) (d : TyD) (w : World) (hP : w.cell? ⟨P, 0, none⟩ = some (.pointer (some ⟨T, 0, none⟩))) (h : TbIn lo T tab w) (hd : tab ty = some d) (hk : d.kind = 7) (hc : d.cls = c) (ht : d.times = 0) (hp : d.parts = [p]) (hs : (getD_ tab p).size ≤ 4096) (hx : w.cell? ⟨ab, ao + 1, none⟩ = some (.int .u32 c)) :
  Calls Tryz.prog 68 #[.pointer (some ⟨P, 0, none⟩), .agg #[.int .u16 59, .int .u32 ty, .int .u32 res, .slice (some ⟨ab, ao, none⟩) 1 ac]] w fun e w' => (∃ g, e = .returned (.tuple #[.agg #[.int .u32 c, .int .u32 p, .slice (some ⟨g, 0, none⟩) (getD_ tab p).size (getD_ tab p).size], .int .i64 0]) ∧ wordsP g (getD_ tab p).size w.heap.size w') ∧ Below w.heap.size w w' := by
 obtain ⟨al, f, b, o, h4, h5, h6, h7⟩ := h.row ty d hd (by rw [hp]; simp)
 have e : getD_ tab ty = d := by unfold getD_; rw [hd]; rfl
 have h8 := (h5 ty).1
 rw [e] at h8
 have h9 := h7 0 (by rw [hp]; simp)
 have e0 : d.parts[0]'(by rw [hp]; simp) = p := by simp [hp]
 rw [e0] at h9
 have := holds_own P T al f ty res c p b o ab ao ac w hP h4 (h8.kind.trans hk) (h8.cls.trans hc) (h8.times.trans ht) (by rw [h8.pn, hp]; rfl) h6 h9 (by rw [(h5 p).1.size]; exact hs) hx
 rw [(h5 p).1.size] at this
 exact this
theorem nothing_in (lo P T op ty res : Nat) (v : Value) (tab : Nat → Option TyD) (w : World) (hP : w.cell? ⟨P, 0, none⟩ = some (.pointer (some ⟨T, 0, none⟩))) (h : TbIn lo T tab w) (hs : 0 < (getD_ tab ty).size ∧ (getD_ tab ty).size ≤ 4096) :
  Calls Tryz.prog 64 #[.pointer (some ⟨P, 0, none⟩), .agg #[.int .u16 op, .int .u32 ty, .int .u32 res, v]] w fun e w' => (∃ g, e = .returned (.tuple #[.slice (some ⟨g, 0, none⟩) (getD_ tab ty).size (getD_ tab ty).size, .int .i64 0]) ∧ wordsP g (getD_ tab ty).size w.heap.size w') ∧ Below w.heap.size w w' := by
 obtain ⟨al, f, Dm, -, -, -, h4, h5, -⟩ := h.at_
 have := nothing_own P T al f op ty res v w hP h4 (by rw [(h5 ty).1.size]; exact hs)
 rw [(h5 ty).1.size] at this
 exact this
def ncL (w : World) (P T mc mv M lo hi : Nat) (tab : Nat → Option TyD) (cs vs : Value) (nc nv : Nat) (xc xv : List Value) (fc : Nat → Option CnD) (fv : Nat → Option VarD) (Dm : Nat → Prop) (L : List As) : List As :=
 rw_ w.heap.size 27 1 vs nv xv :: cls P #[.pointer (some ⟨T, 0, none⟩), cs, .map (some mc), vs, .map (some mv)] 107 :: mpA (.int .u32) keyU encVr mv fv :: wordsA Dm fv :: rw_ w.heap.size 27 1 cs nc xc :: mpA (.int .u32) keyU encCn mc fc :: mpA (.int .u16) keyH encF M (makersF P) :: deep lo hi (fun lo W => TbIn lo T tab W) :: L
structure NcSt (w : World) (l : List In) (V : Nat → Option (Nat × Nat × Nat)) (P T mc mv M lo hi : Nat) (tab : Nat → Option TyD) (L : List As) (k : Nat) (W : World) : Prop where
 at_ : ∃ cs vs nc nv xc xv fc fv Dm, nc ≤ k ∧ nv ≤ k ∧ VarRel fv (varK l V k) ∧ Own noX w (ncL w P T mc mv M lo hi tab cs vs nc nv xc xv fc fv Dm L) W
theorem makers_none {P op : Nat} (h : op ∉ [1, 41, 42, 43, 44, 46, 59]) : makersF P op = none := by
 simp only [List.mem_cons, List.not_mem_nil, or_false, not_or] at h
 unfold makersF kup
 simp [h]
theorem consts_own (gen bound : Nat) (b o cap : Nat) (l : List In) (sv : Nat → Option Addr × Nat) (t : Nat → Nat) (m : Nat) (D : Nat → Option TyD) (V : Nat → Option (Nat × Nat × Nat)) (w : World) (hM : Ms w b o l sv) (hs : Sound bound l) (ht : OneFn l t m) (hi : IdsOk l t) (hty : TypesOk l D) (hc : ConstOk l t (tabK l D l.length) V) :
  Calls Tryz.prog 27 #[.agg #[.int .u32 gen, .int .u32 bound, .slice (some ⟨b, o, none⟩) l.length cap]] w fun r w' => (∃ P T, r = .returned (.tuple #[.pointer (some ⟨P, 0, none⟩), .agg #[.int .i64 0, .int .i64 0]]) ∧ PlIn w.heap.size P T (tabK l D l.length) (varK l V (t 8)) w') ∧ Below w.heap.size w w' := by
 have hn := hs.len
 have h78 := ht.cut.le 7 (by omega)
 have h8l := ht.cut.len
 have cT : ∀ W, Below w.heap.size w W → Calls Tryz.prog 25 #[.agg #[.int .u32 gen, .int .u32 bound, .slice (some ⟨b, o, none⟩) l.length cap]] W fun r w' => (∃ T, r = .returned (.tuple #[.pointer (some ⟨T, 0, none⟩), .agg #[.int .i64 0, .int .i64 0]]) ∧ TbIn W.heap.size T (tabK l D l.length) w') ∧ Below W.heap.size W w' := fun W hb => tnew_own gen bound b o cap l sv t m D W (hM.below hb) hs ht hi hty
 have cP : ∀ W, Below w.heap.size w W → Calls Tryz.prog 36 #[.agg #[.int .u32 gen, .int .u32 bound, .slice (some ⟨b, o, none⟩) l.length cap]] W fun r w' => r = .returned (.tuple #[partsVal t l.length, .agg #[.int .i64 0, .int .i64 0]]) ∧ Below W.heap.size W w' := fun W hb => parts_own gen bound _ cap l t m W (hM.below hb).back hs ht
 have cM := fun (P : Nat) (W : World) => cmakers_own P W
 have hpv : partsVal t l.length = .agg #[.int .i64 (psAll t l.length 0), .int .i64 (psAll t l.length 1), .int .i64 (psAll t l.length 2), .int .i64 (psAll t l.length 3), .int .i64 (psAll t l.length 4), .int .i64 (psAll t l.length 5), .int .i64 (psAll t l.length 6), .int .i64 (psAll t l.length 7), .int .i64 (psAll t l.length 8), .int .i64 (psAll t l.length 9), .int .i64 (psAll t l.length 10), .int .i64 (psAll t l.length 11), .int .i64 (psAll t l.length 12), .int .i64 (psAll t l.length 13), .int .i64 (psAll t l.length 14), .int .i64 (psAll t l.length 15), .int .i64 (psAll t l.length 16), .int .i64 (psAll t l.length 17), .int .i64 (psAll t l.length 18), .int .i64 (psAll t l.length 19)] := rfl
 have p14 : psAll t l.length 14 = t 7 := rfl
 have p15 : psAll t l.length 15 = t 8 := rfl
 rw [hpv, p14, p15] at cP
 clear hpv p14 p15
 generalize psAll t l.length = ps at cP
 have HM := hid hM
 have HC := hid hc
 have htl := hid (And.intro h78 h8l)
 clear hM hs ht hi hty hc h78 h8l
 obtain ⟨tab, htab⟩ : ∃ tab, Hid (tab = tabK l D l.length) := ⟨_, hid rfl⟩
 rw [← htab.out] at cT HC ⊢
 clear htab
 have HO := Own.nil w
 have hmm := @run_makeMap Tryz.prog
 go_enter Tryz.func27, Tryz.ntmps27
 go_wp2_with (first | ((first | (with_reducible refine sp_al HO ?_; intro g hg W' HO'; rw [← hg.out]; clear hg) | (with_reducible refine sp_sk HO ?_; intro W' HO') | (with_reducible refine sp_skc HO ?_; intro W' HO') | (refine sp_wk HO rfl 34 _ _ rfl rfl rfl (by kernel_rfl) (by rfl) (by simp [Value.oneCell']) ?_; intro W' HO') | (refine sp_wk HO rfl 81 _ _ rfl rfl rfl (by kernel_rfl) (by rfl) (by simp [Value.oneCell']) ?_; intro W' HO')); clear HO; (try clear kk); have HO := HO'; clear HO'; (try simp only [zTz, zTs, zTa] at HO); (try have kk := HO.kk); skip) | (go_at_call 25; (with_reducible refine (cT _ HO.below).mono ?_); rintro e w1 ⟨⟨gT, rfl, hq⟩, hn1⟩; replace HO := HO.deep (P := fun lo W => TbIn lo gT tab W) hn1 hq; clear hn1 hq; (try clear kk); skip; (try simp only [zTz, zTs, zTa, zDs, zDz] at HO); (try have kk := HO.kk); skip) | (go_at_call 36; (with_reducible refine (cP _ HO.below).mono ?_); rintro e w1 ⟨rfl, hn1⟩; replace HO := HO.then hn1; clear hn1; (try clear kk); skip; (try simp only [zTz, zTs, zTa, zDs, zDz] at HO); (try have kk := HO.kk); skip) | (go_at_call 41; (with_reducible refine (cM _ _).mono ?_); rintro e w1 ⟨⟨gM, rfl, hM1, hM2⟩, hn1⟩; replace HO := HO.cons (A := mpA (.int .u16) keyH encF gM (makersF _)) hn1 (fun k hk => by cases hk; exact ⟨hM1, hM2.lt⟩) hM2; clear hn1 hM1 hM2; (try clear kk); skip; (try simp only [zTz, zTs, zTa, zDs, zDz] at HO); (try have kk := HO.kk); skip))
 clear cT cP cM hmm
 (try clear kk); skip
 rename_i gMod U1 gSp3 U2 U3 gSp5 U4 U5 U6 gParts U7 gSp7 U8 U9 U10 gmc U11 gmv U12 K1 a1
 obtain ⟨gP, rfl⟩ : ∃ q, q = g := ⟨_, rfl⟩
 obtain ⟨lo, hlo⟩ : ∃ lo, Hid (lo = U2.heap.size) := ⟨_, hid rfl⟩
 obtain ⟨hi, hhi⟩ : ∃ hi, Hid (hi = U3.heap.size) := ⟨_, hid rfl⟩
 rw [← hlo.out, ← hhi.out] at HO
 have hlow : Hid (w.heap.size ≤ lo) := hid (by
  have ht := DeepAt.out (HO.at 7 rfl : DeepAt _ _ _ _) (TbIn.keeps gT tab)
  obtain ⟨U, u1, u2, u3⟩ := (HO.at 7 rfl : DeepAt _ _ _ _).at_
  obtain ⟨al, f, Dm, h1, -, -, h4, -⟩ := u2.at_
  have := h4.lt
  exact ((HO.low _ (List.mem_of_getElem? (i := 7) rfl) lo ⟨Nat.le_refl _, by omega⟩).1).resolve_right id)
 clear hlo hhi
 replace HO := HO.recast 2 (A' := mpA (.int .u32) keyU encVr gmv (fun _ => none)) rfl (fun k hk => hk) (mp_new (HO.blk 2 rfl))
 replace HO := HO.recast 3 (A' := mpA (.int .u32) keyU encCn gmc (fun _ => none)) rfl (fun k hk => hk) (mp_new (HO.blk 3 rfl))
 simp only [List.set_cons_zero, List.set_cons_succ] at HO
 replace HO := HO.row w.heap.size 27 1
 replace HO := HO.row w.heap.size 27 1
 replace HO := HO.free (A := wordsA (fun _ => False) (fun _ => none)) (fun k hk => hk) (fun id x h => by cases h)
 replace HO := HO.pull 11 rfl
 simp only [List.eraseIdx_cons_zero, List.eraseIdx_cons_succ] at HO
 replace HO := HO.pull 9 rfl
 simp only [List.eraseIdx_cons_zero, List.eraseIdx_cons_succ] at HO
 replace HO := HO.pull 12 rfl
 simp only [List.eraseIdx_cons_zero, List.eraseIdx_cons_succ] at HO
 replace HO := HO.pull 12 rfl
 simp only [List.eraseIdx_cons_zero, List.eraseIdx_cons_succ] at HO
 replace HO := HO.pull 7 rfl
 simp only [List.eraseIdx_cons_zero, List.eraseIdx_cons_succ] at HO
 replace HO := HO.pull 10 rfl
 simp only [List.eraseIdx_cons_zero, List.eraseIdx_cons_succ] at HO
 replace HO := HO.pull 7 rfl
 simp only [List.eraseIdx_cons_zero, List.eraseIdx_cons_succ] at HO
 replace HO := HO.pull 7 rfl
 simp only [List.eraseIdx_cons_zero, List.eraseIdx_cons_succ] at HO
 replace HO := HO.pull 10 rfl
 simp only [List.eraseIdx_cons_zero, List.eraseIdx_cons_succ] at HO
 replace HO := HO.pull 10 rfl
 simp only [List.eraseIdx_cons_zero, List.eraseIdx_cons_succ] at HO
 replace HO := HO.pull 10 rfl
 simp only [List.eraseIdx_cons_zero, List.eraseIdx_cons_succ] at HO
 obtain ⟨L0, hL0⟩ : ∃ L0, Hid (L0 = [cls gMod #[.int .u32 gen, .int .u32 bound, .slice (some ⟨b, o, none⟩) l.length cap] 30, cls gParts #[.int .i64 (ps 0), .int .i64 (ps 1), .int .i64 (ps 2), .int .i64 (ps 3), .int .i64 (ps 4), .int .i64 (ps 5), .int .i64 (ps 6), .int .i64 (ps 7), .int .i64 (ps 8), .int .i64 (ps 9), .int .i64 (ps 10), .int .i64 (ps 11), .int .i64 (ps 12), .int .i64 (ps 13), .int .i64 (t 7), .int .i64 (t 8), .int .i64 (ps 16), .int .i64 (ps 17), .int .i64 (ps 18), .int .i64 (ps 19)] 81, cls gSp3 #[.int .i64 0, .int .i64 0] 34, cls gSp7 #[.int .i64 0, .int .i64 0] 34, cls gSp5 #[.int .i64 0, .int .i64 0] 34]) := ⟨_, hid rfl⟩
 have H0 : Hid (NcSt w l V gP gT gmc gmv gM lo hi tab L0 (t 7) w1) := hid ⟨_, _, 0, 0, [], [], fun _ => none, fun _ => none, _, by omega, by omega, fun id => by rw [varK_early (t 7) (fun j hj => HC.out.early j hj)]; rfl, by rw [hL0.out]; exact HO⟩
 clear HO
 go_loopw [10, 11] (fun x10 _ wr => ∃ k : Nat, t 7 ≤ k ∧ k ≤ t 8 ∧ x10 = .int .i64 k ∧ NcSt w l V gP gT gmc gmv gM lo hi tab L0 k wr) (fun x _ _ => t 8 - (intOf x).toNat)
 case atStart => exact ⟨t 7, by omega, htl.out.1, rfl, H0.out⟩
 case round =>
  obtain ⟨k, hk1, hk2, rfl, hst⟩ := hrel
  clear H0
  obtain ⟨cs, vs, nc, nv, xc, xv, fc, fv, Dm, hnc, hnv, hv, HO⟩ := hst.at_
  have HV := hid hv
  clear hst hv
  rw [hL0.out] at HO
  unfold ncL at HO
  have ht8 := htl.out.2
  by_cases hlt : k < t 8
  ·have hkl : k < l.length := by omega
   have hMM := HM.out.below HO.below
   have e0 := hMM.op k hkl
   have e1 := hMM.ty k hkl
   have e2 := hMM.res k hkl
   have e3 := hMM.args k hkl
   have zb := hMM.lt
   have hsl := hid (HM.out.sl k hkl)
   have hone := hid (HC.out.one k hkl hk1 hlt)
   have hgd := hid (show l.getD k noIn = l[k] from getD_at l hkl)
   have HLT := hid hlt
   clear hMM
   have i2 : (k : Int) < l.length := by omega
   have i3 : (k : Int) < t 8 := by omega
   generalize l[k] = i at e0 e1 e2 e3 hsl hone hgd
   generalize sv k = s at e3 hsl
   clear hlt
   obtain ⟨sa, sc⟩ := s
   simp only at e3 hsl
   (try simp only [zTz, zTs, zTa, zDs, zDz] at HO); (try have kk := HO.kk); skip
   go_wp2_with fail
   (try clear kk); skip
   have hon := hone.out
   generalize hvk : V k = vk at hon
   have HVK := hid hvk
   clear hvk hone
   cases hon with
   | other i h =>
    have cc := cadd_none gP gM gP i.op i.ty i.res (.slice sa i.args.length sc) wr (HO.at 6 rfl) (fun q => h (by rw [q]; simp)) (makers_none h)
    refine cc.mono ?_
    clear cc
    rintro e w2 ⟨rfl, hn1⟩
    replace HO := HO.then hn1
    clear hn1
    go_wp2_with fail
    exact ⟨⟨k + 1, by omega, HLT.out, by go_num, ⟨cs, vs, nc, nv, xc, xv, fc, fv, Dm, by omega, by omega, by simp only [varK, HVK.out]; exact HV.out, by rw [hL0.out]; exact HO⟩⟩, by have := HLT.out; simp [intOf]; omega⟩
   | null ty res h =>
    replace HO := HO.pull 7 rfl
    simp only [List.eraseIdx_cons_zero, List.eraseIdx_cons_succ] at HO
    replace HO := HO.pull 7 rfl
    simp only [List.eraseIdx_cons_zero, List.eraseIdx_cons_succ] at HO
    replace HO := HO.pull 5 rfl
    simp only [List.eraseIdx_cons_zero, List.eraseIdx_cons_succ] at HO
    replace HO := HO.pull 5 rfl
    simp only [List.eraseIdx_cons_zero, List.eraseIdx_cons_succ] at HO
    replace HO := HO.pull 4 rfl
    simp only [List.eraseIdx_cons_zero, List.eraseIdx_cons_succ] at HO
    replace HO := HO.pull 7 rfl
    simp only [List.eraseIdx_cons_zero, List.eraseIdx_cons_succ] at HO
    replace HO := HO.pull 6 rfl
    simp only [List.eraseIdx_cons_zero, List.eraseIdx_cons_succ] at HO
    replace HO := HO.pull 7 rfl
    simp only [List.eraseIdx_cons_zero, List.eraseIdx_cons_succ] at HO
    have cc := cadd_null w gP gT gmc gmv gM cs vs nc xc fc _ ty res (getD_ tab ty).size (.slice sa 0 sc) wr HO (by omega)
     (fun L' W h => h.has _ (List.mem_append_right _ (List.mem_of_getElem? (i := 3) rfl)))
     (fun L' W h3 hp => nothing_in _ gP gT 46 ty res _ tab W hp (DeepAt.out (h3.has _ (List.mem_append_right _ (List.mem_of_getElem? (i := 4) rfl)) : DeepAt _ _ _ W) (TbIn.keeps gT tab)) h)
    refine cc.mono ?_
    clear cc HO
    rintro e w2 ⟨rfl, cs', xs', g', lo', hi', HO⟩
    unfold pcL at HO
    replace HO := HO.pull 8 rfl
    simp only [List.eraseIdx_cons_zero, List.eraseIdx_cons_succ] at HO
    replace HO := HO.pull 8 rfl
    simp only [List.eraseIdx_cons_zero, List.eraseIdx_cons_succ] at HO
    replace HO := HO.pull 4 rfl
    simp only [List.eraseIdx_cons_zero, List.eraseIdx_cons_succ] at HO
    replace HO := HO.pull 3 rfl
    simp only [List.eraseIdx_cons_zero, List.eraseIdx_cons_succ] at HO
    replace HO := HO.pull 8 rfl
    simp only [List.eraseIdx_cons_zero, List.eraseIdx_cons_succ] at HO
    replace HO := HO.pull 8 rfl
    simp only [List.eraseIdx_cons_zero, List.eraseIdx_cons_succ] at HO
    replace HO := HO.pull 6 rfl
    simp only [List.eraseIdx_cons_zero, List.eraseIdx_cons_succ] at HO
    replace HO := HO.pull 8 rfl
    simp only [List.eraseIdx_cons_zero, List.eraseIdx_cons_succ] at HO
    replace HO := HO.pull 8 rfl
    simp only [List.eraseIdx_cons_zero, List.eraseIdx_cons_succ] at HO
    replace HO := HO.drop 1
    simp only [List.drop_succ_cons, List.drop_zero] at HO
    go_wp2_with fail
    exact ⟨⟨k + 1, by omega, HLT.out, by go_num, ⟨cs', vs, nc + 1, nv, xs', xv, _, fv, Dm, by omega, by omega, by simp only [varK, HVK.out]; exact HV.out, by rw [hL0.out]; exact HO⟩⟩, by have := HLT.out; simp [intOf]; omega⟩
   | var ty res p a d hd hk hc ht hp hs =>
    obtain ⟨ab, ao, ha, hal, hcell⟩ := hsl.out.at_ (by simp)
    subst ha
    have hx := (hcell 0 (by simp)).n
    simp only [Nat.zero_mul, Nat.add_zero, List.getElem_cons_zero] at hx
    have cc := add_var w gP gT gmc gmv gM cs vs nv xv fv _ ty res a.n p (getD_ tab p).size (.slice (some ⟨ab, ao, none⟩) 1 sc) wr HO (by omega)
     (fun L' W h3 hP => holds_in _ gP gT ty res p ab ao sc a.n tab d W hP (DeepAt.out (h3.has _ (List.mem_append_right _ (List.mem_of_getElem? (i := 4) rfl)) : DeepAt _ _ _ W) (TbIn.keeps gT tab)) hd hk hc ht hp hs.2 (cell_last hx hal h3.below))
    refine cc.mono ?_
    clear cc HO
    rintro e w2 ⟨rfl, vs', xs', g', lo', hi', HO⟩
    unfold plL at HO
    replace HO := HO.pull 2 rfl
    simp only [List.eraseIdx_cons_zero, List.eraseIdx_cons_succ] at HO
    replace HO := HO.pull 2 rfl
    simp only [List.eraseIdx_cons_zero, List.eraseIdx_cons_succ] at HO
    replace HO := HO.pull 2 rfl
    simp only [List.eraseIdx_cons_zero, List.eraseIdx_cons_succ] at HO
    replace HO := HO.pull 4 rfl
    simp only [List.eraseIdx_cons_zero, List.eraseIdx_cons_succ] at HO
    replace HO := HO.pull 4 rfl
    simp only [List.eraseIdx_cons_zero, List.eraseIdx_cons_succ] at HO
    replace HO := HO.words hs.1 res a.n p
    replace HO := HO.pull 3 rfl
    simp only [List.eraseIdx_cons_zero, List.eraseIdx_cons_succ] at HO
    replace HO := HO.pull 3 rfl
    simp only [List.eraseIdx_cons_zero, List.eraseIdx_cons_succ] at HO
    replace HO := HO.pull 3 rfl
    simp only [List.eraseIdx_cons_zero, List.eraseIdx_cons_succ] at HO
    go_wp2_with fail
    exact ⟨⟨k + 1, by omega, HLT.out, by go_num, ⟨cs, vs', nc, nv + 1, xc, xs', fc, _, _, by omega, by omega, by simp only [varK, HVK.out, hgd.out]; exact HV.out.kup res ⟨a.n, p, g', _⟩, by rw [hL0.out]; exact HO⟩⟩, by have := HLT.out; simp [intOf]; omega⟩
  ·obtain rfl : k = t 8 := by omega
   have i3 : ¬ ((t 8 : Nat) : Int) < t 8 := by omega
   (try simp only [zTz, zTs, zTa, zDs, zDz] at HO); (try have kk := HO.kk); skip
   go_wp2_with (first | ((first | (with_reducible refine sp_sk HO ?_; intro W' HO') | (with_reducible refine sp_skc HO ?_; intro W' HO') | (refine sp_wk HO rfl 34 _ _ rfl rfl rfl (by kernel_rfl) (by rfl) (by simp [Value.oneCell']) ?_; intro W' HO')); clear HO; (try clear kk); have HO := HO'; clear HO'; (try simp only [zTz, zTs, zTa] at HO); (try have kk := HO.kk); skip))
   refine bodyPost_ret_by (res_tmp_row rfl _ _ _ 34 #[.int .i64 0, .int .i64 0] _ _ rfl (HO.blk 10 rfl) Tryz.underlying34 rfl infoSpt) rfl ?_
   refine ⟨⟨gP, rfl, gT, ⟨gmv, fv, Dm, HO.le 1 rfl, ((HO.low _ (List.mem_of_getElem? (i := 2) rfl) gmv rfl).1).resolve_right id, fun b hb => ((HO.low _ (List.mem_of_getElem? (i := 3) rfl) b hb).1).resolve_right id, HO.cell 1 0 rfl rfl, HO.cell 1 4 rfl rfl, (DeepAt.out (HO.at 7 rfl : DeepAt _ _ _ _) (TbIn.keeps gT tab)).lower hlow.out, HO.at 2 rfl, HV.out, HO.at 3 rfl, fun b hb => (HO.low _ (List.mem_of_getElem? (i := 3) rfl) b hb).2⟩⟩, HO.below⟩
end Go.Proofs.YtbhijdmlonplgaaGreatDoor
