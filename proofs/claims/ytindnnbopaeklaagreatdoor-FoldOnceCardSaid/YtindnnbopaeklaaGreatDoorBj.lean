/- Face: calls.Len, Reached; function; is a number one of some. -/
import Derived.Test.YtindnnbopaeklaaGreatDoorBi
import Derived.Test.YtindnnbopaeklaaGreatDoorBd
import Derived.Test.YtindnnbopaeklaaGreatDoorAf
import Derived.Test.YtindnnbopaeklaaGreatDoorAw
namespace Go.Proofs.YtindnnbopaeklaaGreatDoor
set_option linter.unusedVariables false
set_option linter.unusedSimpArgs false
set_option maxRecDepth 100000
set_option maxHeartbeats 4000000
open Go.RowKit Go.MapKept
end Go.Proofs.YtindnnbopaeklaaGreatDoor
namespace Go.Proofs.YtindnnbopaeklaaGreatDoor
set_option linter.unusedVariables false
set_option linter.unusedSimpArgs false
set_option maxRecDepth 100000
set_option maxHeartbeats 8000000
open Go.RowKit Go.MapKept
def fkK (l : List In) : Nat → Nat → Option Nat
 | 0 => fun _ => none
 | k + 1 => if (l.getD k noIn).op = 71 then kup (fkK l k) (((l.getD k noIn).args.map (·.n)).headD 0) k else fkK l k
def DecOk (l : List In) : Prop := ∀ k (h : k < l.length), l[k].op = 71 → 0 < l[k].args.length ∧ fkK l k ((l[k].args.map (·.n)).headD 0) = none
def fkL (w : World) (K P T C gf gc gd b o cap b2 cb id lab y st en lo1 hi1 lo2 hi2 lo3 hi3 : Nat) (l : List In) (sv : Nat → Option Addr × Nat) (tab : Nat → Option TyD) (vs : Nat → Option (Nat × Nat × Nat)) (f : Nat → Option DcD) (D : Nat → Prop) (L : List As) : List As :=
 decA l sv D f :: cls K #[.pointer (some ⟨P, 0, none⟩), .pointer (some ⟨T, 0, none⟩), .pointer (some ⟨C, 0, none⟩), .slice (some ⟨gf, 0, none⟩) 1 gc, .slice (some ⟨b, o, none⟩) l.length cap, .map (some gd)] 401 :: mpA (.int .u32) keyU encDc gd f :: deep lo3 hi3 (FnQ gf b2 cb id lab y st en) :: deep lo2 hi2 (CaIn C) :: deep lo1 hi1 (fun lo W => PlIn lo P T tab vs W) :: L
theorem Own.dec {X : Nat → Prop} {w W : World} {L : List As} {D : Nat → Prop} {f : Nat → Option DcD} {l : List In} {sv : Nat → Option Addr × Nat} {base g c : Nat} (k id : Nat) (h : Own X w (rw_ base 43 4 (.slice (some ⟨g, 0, none⟩) 1 c) 1 (fcCells (l.getD k noIn) (sv k)).toList :: decA l sv D f :: L) W) : Own X w (decA l sv (fun b => b = g ∨ D b) (kup f id ⟨g, c, k⟩) :: L) W := by
 have h2 := h.join
 have hr := h.at 1 rfl
 refine h2.recast 0 (A' := decA l sv (fun b => b = g ∨ D b) (kup f id ⟨g, c, k⟩)) rfl (fun b hb => hb.imp (fun e => by rw [e]; rfl) (fun q => q)) ?_
 intro j y h1
 unfold kup at h1
 by_cases q : j = id
 ·rw [if_pos q] at h1
  cases h1
  refine ⟨.inl rfl, fun j hj => ?_⟩
  have hz : j < (fcCells (l.getD k noIn) (sv k)).toList.length := by simp [fcCells]; omega
  have := h.rowcell 0 j rfl (List.getElem?_eq_getElem hz)
  rw [this, Array.getElem_toList, Array.getElem?_eq_getElem]
 ·rw [if_neg q] at h1
  exact ⟨.inr (hr j y h1).1, (hr j y h1).2⟩
theorem head_n : ∀ (xs : List Ag) (h : 0 < xs.length), (xs.map (·.n)).headD 0 = xs[0].n
 | [], h => absurd h (by simp)
 | x :: xs, _ => rfl
theorem ft_alloc {P : Program} {ops : Array Oper} {Q : Exit → Act → World → Prop} {S : World → Prop} {md : Region.Mode} {fuel : Nat} {listed : Array Bool} {a : Act} {X : Nat → Prop} {w W : World} {L : List As} {o : Obj} (h : Own X w L W) (k : ∀ W', Own X w (blk W.heap.size o :: L) W' → wpS P md ops Q S fuel listed a W') : wpS P md ops Q S fuel listed a (W.alloc o) := k _ (h.alloc o)
theorem merge_W {F : Nat → World → Prop} {w : World} {LH : Nat → List As} {g : Prop} (h2 : (∀ H W, Own noX w (LH H) W → F H W) → g) (h1 : ∀ H W, Own noX w (LH H) W → F H W) : g := h2 h1
theorem zeroDc (w : World) : (zeroValue 26).run Tryz.prog w = .ok (.slice none 0 0) w := by kernel_rfl
structure FsSt (w : World) (K P T C gf gc gd b o cap b2 cb id lab y st en lo1 hi1 lo2 hi2 lo3 hi3 : Nat) (l : List In) (sv : Nat → Option Addr × Nat) (tab : Nat → Option TyD) (vs : Nat → Option (Nat × Nat × Nat)) (L : List As) (k : Nat) (W : World) : Prop where
 at_ : ∃ f D, (∀ v, (f v).map (·.k) = fkK l k v) ∧ Own noX w (fkL w K P T C gf gc gd b o cap b2 cb id lab y st en lo1 hi1 lo2 hi2 lo3 hi3 l sv tab vs f D L) W
theorem fstart_own (gen bound : Nat) (b o cap : Nat) (l : List In) (sv : Nat → Option Addr × Nat) (t : Nat → Nat) (m : Nat) (tab : Nat → Option TyD) (vs : Nat → Option (Nat × Nat × Nat)) (w : World) (hM : Ms w b o l sv) (hs : Sound bound l) (ht : OneFn l t m) (hd : DecOk l)
  (cN : ∀ W, Below w.heap.size w W → Calls Tryz.prog 53 #[.agg #[.int .u32 gen, .int .u32 bound, .slice (some ⟨b, o, none⟩) l.length cap]] W fun r w' => (∃ P T, r = .returned (.tuple #[.pointer (some ⟨P, 0, none⟩), .agg #[.int .i64 0, .int .i64 0]]) ∧ PlIn W.heap.size P T tab vs w') ∧ Below W.heap.size W w')
  (cL : ∀ W, Below w.heap.size w W → Calls Tryz.prog 173 #[.agg #[.int .u32 gen, .int .u32 bound, .slice (some ⟨b, o, none⟩) l.length cap]] W fun r w' => (∃ C, r = .returned (.tuple #[.pointer (some ⟨C, 0, none⟩), .agg #[.int .i64 0, .int .i64 0]]) ∧ CaIn C W.heap.size w') ∧ Below W.heap.size W w') :
  Calls Tryz.prog 263 #[.agg #[.int .u32 gen, .int .u32 bound, .slice (some ⟨b, o, none⟩) l.length cap]] w fun r w' => (∃ K P T C gf gc gd b2 cb f D lo1 hi1 lo2 hi2 lo3 hi3, r = .returned (.tuple #[.pointer (some ⟨K, 0, none⟩), .agg #[.int .i64 0, .int .i64 0]]) ∧ (∀ v, (f v).map (·.k) = fkK l l.length v) ∧ Own noX w (fkL w K P T C gf gc gd b o cap b2 cb (l.getD (t 8) noIn).res (l.getD (t 8 + 1) noIn).res (t 8) (t 8 + 1) (m + 1) lo1 hi1 lo2 hi2 lo3 hi3 l sv tab vs f D []) w') := by
 have hn := hs.len
 have cC : ∀ W, Below w.heap.size w W → _ := fun W hb => cutq_own gen bound (some ⟨b, o, none⟩) cap l t m W (hM.below hb).back hs ht
 have HM := hid hM
 have HD := hid hd
 clear hM hs ht hd
 generalize (l.getD (t 8) noIn).res = id at cC ⊢
 generalize (l.getD (t 8 + 1) noIn).res = lab at cC ⊢
 generalize t 8 + 1 = st at cC ⊢
 generalize t 8 = y at cC ⊢
 generalize m + 1 = en at cC ⊢
 have HO := Own.nil w
 have hmm := @run_makeMap Tryz.prog
 go_enter Tryz.func263, Tryz.ntmps263
 go_wp2_with (first | ((first | (with_reducible refine sp_al HO ?_; clear HO; (try clear kk); intro g hg W' HO; rw [← hg.out]; clear hg) | (with_reducible refine sp_sk HO ?_; clear HO; (try clear kk); intro W' HO) | (with_reducible refine sp_skc HO ?_; clear HO; (try clear kk); intro W' HO) | (refine sp_wk HO rfl 36 _ _ rfl rfl rfl (by kernel_rfl) (by rfl) (by simp [Value.oneCell']) ?_; clear HO; (try clear kk); intro W' HO)); (try simp only [zTz, zTs, zTa] at HO); (try have kk := HO.kk)) | (go_at_call 53; (with_reducible refine (cN _ HO.below).mono ?_); rintro e w1 ⟨⟨P, T, rfl, hq⟩, hn1⟩; replace HO := HO.deep (P := fun lo W => PlIn lo P T tab vs W) hn1 hq; clear hn1 hq; (try clear kk); (try simp only [zTz, zTs, zTa, zDs, zDz] at HO); (try have kk := HO.kk)) | (go_at_call 173; (with_reducible refine (cL _ HO.below).mono ?_); rintro e w2 ⟨⟨C, rfl, hq⟩, hn1⟩; replace HO := HO.deep (P := CaIn C) hn1 hq; clear hn1 hq; (try clear kk); (try simp only [zTz, zTs, zTa, zDs, zDz] at HO); (try have kk := HO.kk)))
 clear cN cL
 (try clear kk)
 rename_i Q0 gMod V3 gSp3 V2 V1 V0 K1 a1
 obtain ⟨gSp, rfl⟩ : ∃ q, q = g := ⟨_, rfl⟩
 obtain ⟨lo1, h1⟩ : ∃ x, Hid (x = V2.heap.size) := ⟨_, hid rfl⟩
 obtain ⟨hi1, h2⟩ : ∃ x, Hid (x = w1.heap.size) := ⟨_, hid rfl⟩
 obtain ⟨lo2, h3⟩ : ∃ x, Hid (x = V0.heap.size) := ⟨_, hid rfl⟩
 obtain ⟨hi2, h4⟩ : ∃ x, Hid (x = w2.heap.size) := ⟨_, hid rfl⟩
 rw [← h1.out, ← h2.out, ← h3.out, ← h4.out] at HO
 clear h1 h2 h3 h4
 have mkO : ∀ (W : World) (i j : Nat) (L : List As), Own noX w L W → L[i]? = some (deep lo1 hi1 (fun lo W => PlIn lo P T tab vs W)) → L[j]? = some (cls gMod #[.int .u32 gen, .int .u32 bound, .slice (some ⟨b, o, none⟩) l.length cap] 28) → W.cell? ⟨P, 0, none⟩ = some (.pointer (some ⟨T, 0, none⟩)) ∧ W.cell? ⟨gMod, 2, none⟩ = some (.slice (some ⟨b, o, none⟩) l.length cap) := fun W i j L h h1 h2 => by
  obtain ⟨mv, fv, Dm, -, -, -, h4, -⟩ := ((h.at i h1 : DeepAt _ _ _ W).out (PlIn.keeps P T tab vs)).at_
  exact ⟨h4, h.cell j 2 h2 rfl⟩
 have hcl : ∀ W W2 : World, (W.cell? ⟨P, 0, none⟩ = some (.pointer (some ⟨T, 0, none⟩)) ∧ W.cell? ⟨gMod, 2, none⟩ = some (.slice (some ⟨b, o, none⟩) l.length cap)) → Below W.heap.size W W2 → (W2.cell? ⟨P, 0, none⟩ = some (.pointer (some ⟨T, 0, none⟩)) ∧ W2.cell? ⟨gMod, 2, none⟩ = some (.slice (some ⟨b, o, none⟩) l.length cap)) := fun _ _ h k => ⟨cell_last h.1 (block_lt_of_cell h.1) k, cell_last h.2 (block_lt_of_cell h.2) k⟩
 have hSw := mkO _ 2 4 _ HO.drew rfl rfl
 refine wp_region_s (S := fun W => W.cell? ⟨P, 0, none⟩ = some (.pointer (some ⟨T, 0, none⟩)) ∧ W.cell? ⟨gMod, 2, none⟩ = some (.slice (some ⟨b, o, none⟩) l.length cap)) (by kernel_rfl) ?_
 refine sTp hcl 0 ?_
 refine sTp hcl 1 ?_
 refine sTc hcl 2 55 (fun w hw => (ctypes_own P T w hw.1).mono (fun e w' h => ⟨h.1, h.2 ▸ Below.refl _ _⟩)) ?_
 refine sTp hcl 3 ?_
 refine sTp hcl 4 ?_
 refine sTk hcl 5 (v := ?_) (hm := ⟨by rfl, .inl ?_⟩) (hSw := hSw) (h := ?_)
 rotate_left
 ·(intro w hw; have q1 := hw.2; go_simp; first | done | with_reducible rfl)
 try simp only [Act.put, zTa, zTz, zTs]
 refine wpS_ready (rs := [6]) (by kernel_rfl) (by simp) (fun W2 hW2 => ?_)
 replace HO := HO.drew.then hW2
 clear hW2 hSw
 refine sR1 (fun K hK => ?_)
 go_simp
 have H := HO.alloc (.map #[] 0)
 have hSw := mkO _ 3 5 _ H rfl rfl
 refine hK.out _ _ hSw ?_
 clear hK K HO
 try simp only [Act.put, zTa, zTz, zTs]
 obtain ⟨gd, hgd⟩ : ∃ gd, Hid (gd = W2.heap.size) := ⟨_, hid rfl⟩
 rw [← hgd.out] at H ⊢
 refine sTp hcl 7 ?_
 refine wpS_ready (rs := [8]) (by kernel_rfl) (by simp) (fun W3 hW3 => ?_)
 have HO := H.then hW3
 clear hW3 H hSw
 refine sR1 (fun K hK => ?_)
 go_simp
 have H := HO.alloc (.cells #[.pointer (some ⟨P, 0, none⟩), .pointer (some ⟨T, 0, none⟩), .pointer (some ⟨C, 0, none⟩), .slice none 0 0, .slice (some ⟨b, o, none⟩) l.length cap, .map (some gd)] 401 (0, 0))
 have hSw := mkO _ 4 6 _ H rfl rfl
 refine hK.out _ _ hSw ?_
 clear hK K HO
 try simp only [Act.put, zTa, zTz, zTs]
 obtain ⟨gK, hgK⟩ : ∃ gd, Hid (gd = W3.heap.size) := ⟨_, hid rfl⟩
 rw [← hgK.out] at H ⊢
 refine sTp hcl 9 ?_
 refine wpS_done (by kernel_rfl) (fun W8 hW8 => ?_) _
 have HO := H.then hW8
 clear H hW8 hSw hgK hgd hcl mkO hmm
 replace HO := HO.recast 1 (A' := mpA (.int .u32) keyU encDc gd (fun _ => none)) rfl (fun k hk => hk) (mp_new (HO.blk 1 rfl))
 simp only [List.set_cons_zero, List.set_cons_succ] at HO
 (try simp only [zTz, zTs, zTa, zDs, zDz] at HO); (try have kk := HO.kk)
 go_wp2_with (first | ((first | (with_reducible refine sp_al HO ?_; clear HO; (try clear kk); intro g hg W' HO; rw [← hg.out]; clear hg) | (with_reducible refine sp_sk HO ?_; clear HO; (try clear kk); intro W' HO) | (with_reducible refine sp_skc HO ?_; clear HO; (try clear kk); intro W' HO) | (refine sp_wk HO rfl 36 _ _ rfl rfl rfl (by kernel_rfl) (by rfl) (by simp [Value.oneCell']) ?_; clear HO; (try clear kk); intro W' HO)); (try simp only [zTz, zTs, zTa] at HO); (try have kk := HO.kk)) | (go_at_call 54; (with_reducible refine (cC _ HO.below).mono ?_); rintro e w4 ⟨⟨gf, gc, rfl, b2, cb, q⟩, hn1⟩; replace HO := HO.deep (P := FnQ gf b2 cb id lab y st en) hn1 q; clear hn1 q; (try clear kk); (try simp only [zTz, zTs, zTa, zDs, zDz] at HO); (try have kk := HO.kk)))
 (try clear kk)
 obtain ⟨lo3, h1⟩ : ∃ x, Hid (x = W8.heap.size) := ⟨_, hid rfl⟩
 obtain ⟨hi3, h2⟩ : ∃ x, Hid (x = w4.heap.size) := ⟨_, hid rfl⟩
 rw [← h1.out, ← h2.out] at HO
 clear h1 h2 cC
 replace HO := HO.free (A := decA l sv (fun _ => False) (fun _ => none)) (fun k hk => hk) (fun id x h => by cases h)
 replace HO := HO.pull 6 rfl
 simp only [List.eraseIdx_cons_zero, List.eraseIdx_cons_succ] at HO
 replace HO := HO.pull 5 rfl
 simp only [List.eraseIdx_cons_zero, List.eraseIdx_cons_succ] at HO
 replace HO := HO.pull 3 rfl
 simp only [List.eraseIdx_cons_zero, List.eraseIdx_cons_succ] at HO
 replace HO := HO.pull 5 rfl
 simp only [List.eraseIdx_cons_zero, List.eraseIdx_cons_succ] at HO
 replace HO := HO.pull 5 rfl
 simp only [List.eraseIdx_cons_zero, List.eraseIdx_cons_succ] at HO
 replace HO := HO.pull 5 rfl
 simp only [List.eraseIdx_cons_zero, List.eraseIdx_cons_succ] at HO
 obtain ⟨L0, hL0⟩ : ∃ L0, Hid (L0 = [cls gSp #[.int .i64 0, .int .i64 0] 36, cls gSp3 #[.int .i64 0, .int .i64 0] 36, cls gMod #[.int .u32 gen, .int .u32 bound, .slice (some ⟨b, o, none⟩) l.length cap] 28]) := ⟨_, hid rfl⟩
 have H0 : Hid (FsSt w gK P T C gf gc gd b o cap b2 cb id lab y st en lo1 hi1 lo2 hi2 lo3 hi3 l sv tab vs L0 0 W') := hid ⟨fun _ => none, _, fun v => rfl, by rw [hL0.out]; exact HO⟩
 clear HO
 go_loopw [9, 48] (fun _ x48 wr => ∃ k : Nat, k ≤ l.length ∧ x48 = .int .i64 k ∧ FsSt w gK P T C gf gc gd b o cap b2 cb id lab y st en lo1 hi1 lo2 hi2 lo3 hi3 l sv tab vs L0 k wr) (fun _ x _ => l.length - (intOf x).toNat)
 case atStart => exact ⟨0, by omega, rfl, H0.out⟩
 case round =>
  obtain ⟨k, hk, rfl, hst⟩ := hrel
  clear H0
  obtain ⟨f, D, hf, HO⟩ := hst.at_
  have HF := hid hf
  clear hst hf
  rw [hL0.out] at HO
  unfold fkL at HO
  by_cases hlt : k < l.length
  ·have hMM := HM.out.below HO.below
   have e0 := hMM.op k hlt
   have e1 := hMM.ty k hlt
   have e2 := hMM.res k hlt
   have e3 := hMM.args k hlt
   have zb := hMM.lt
   have hsl := hid (HM.out.sl k hlt)
   have hgd := getD_at l hlt
   have hfk : Hid (fkK l (k + 1) = if l[k].op = 71 then kup (fkK l k) ((l[k].args.map (·.n)).headD 0) k else fkK l k) := hid (by simp only [fkK, hgd])
   have hdk := hid (HD.out k hlt)
   have hge : Hid (fcCells (l.getD k noIn) (sv k) = fcCells l[k] (sv k)) := hid (by rw [hgd])
   have HLT := hid hlt
   clear hMM hgd
   have i2 : (k : Int) < l.length := by omega
   generalize l[k] = i at e0 e1 e2 e3 hsl hfk hdk hge
   generalize hs2 : sv k = s at e3 hsl hge
   have HS2 := hid hs2
   clear hlt hs2
   obtain ⟨sa, sc⟩ := s
   simp only at e3 hsl
   by_cases h71 : i.op = 71
   ·rw [if_pos h71] at hfk
    have i3 : ((i.op : Int) == 71) = true := by rw [beq_iff_eq]; omega
    obtain ⟨hpos, hnone⟩ := hdk.out h71
    obtain ⟨ab, ao, ha, hal, hcell⟩ := hsl.out.at_ hpos
    have q0 := (hcell 0 hpos).n
    have hid0 := head_n i.args hpos
    rw [hid0] at hnone hfk
    subst ha
    simp only [Nat.zero_mul, Nat.add_zero] at q0
    generalize i.args[0].n = vid at q0 hnone hfk
    clear hcell hid0 hdk hsl
    (try simp only [zTz, zTs, zTa, zDs, zDz] at HO); (try have kk := HO.kk)
    go_wp2_with (first | ((first | (with_reducible refine sp_al HO ?_; clear HO; (try clear kk); intro g hg W' HO; rw [← hg.out]; clear hg) | (with_reducible refine sp_sk HO ?_; clear HO; (try clear kk); intro W' HO) | (with_reducible refine sp_skc HO ?_; clear HO; (try clear kk); intro W' HO) | (refine sp_wk HO rfl 43 _ _ rfl rfl rfl (by kernel_rfl) (by rfl) (by simp [Value.oneCell']) ?_; clear HO; (try clear kk); intro W' HO)); (try simp only [zTz, zTs, zTa] at HO); (try have kk := HO.kk)))
    obtain ⟨gI, rfl⟩ : ∃ q, q = g := ⟨_, rfl⟩
    (try clear kk)
    have hfn : f vid = none := by
     have := HF.out vid
     rw [hnone] at this
     exact Option.map_eq_none_iff.1 this
    have i4 : (0 : Int) < i.args.length := by omega
    have hop : i.op = 71 := h71
    have hcl : ∀ W W2 : World, (Below w.heap.size w W ∧ W.cell? ⟨gK, 5, none⟩ = some (.map (some gd)) ∧ W.cell? ⟨gI, 0, none⟩ = some (.int .u16 71) ∧ W.cell? ⟨gI, 1, none⟩ = some (.int .u32 i.ty) ∧ W.cell? ⟨gI, 2, none⟩ = some (.int .u32 i.res) ∧ W.cell? ⟨gI, 3, none⟩ = some (.slice (some ⟨ab, ao, none⟩) i.args.length sc)) → Below W.heap.size W W2 → (Below w.heap.size w W2 ∧ W2.cell? ⟨gK, 5, none⟩ = some (.map (some gd)) ∧ W2.cell? ⟨gI, 0, none⟩ = some (.int .u16 71) ∧ W2.cell? ⟨gI, 1, none⟩ = some (.int .u32 i.ty) ∧ W2.cell? ⟨gI, 2, none⟩ = some (.int .u32 i.res) ∧ W2.cell? ⟨gI, 3, none⟩ = some (.slice (some ⟨ab, ao, none⟩) i.args.length sc)) := fun _ _ h k => ⟨bcall h.1 k, cell_last h.2.1 (block_lt_of_cell h.2.1) k, cell_last h.2.2.1 (block_lt_of_cell h.2.2.1) k, cell_last h.2.2.2.1 (block_lt_of_cell h.2.2.2.1) k, cell_last h.2.2.2.2.1 (block_lt_of_cell h.2.2.2.2.1) k, cell_last h.2.2.2.2.2 (block_lt_of_cell h.2.2.2.2.2) k⟩
    have mkS5 : ∀ (W : World) (i1 i2 : Nat) (L : List As) (mv : Value), Own noX w L W → L[i1]? = some (cls gI #[.int .u16 71, .int .u32 i.ty, .int .u32 i.res, .slice (some ⟨ab, ao, none⟩) i.args.length sc] 43) → L[i2]? = some (cls gK #[.pointer (some ⟨P, 0, none⟩), .pointer (some ⟨T, 0, none⟩), .pointer (some ⟨C, 0, none⟩), .slice (some ⟨gf, 0, none⟩) 1 gc, .slice (some ⟨b, o, none⟩) l.length cap, .map (some gd)] 401) → (Below w.heap.size w W ∧ W.cell? ⟨gK, 5, none⟩ = some (.map (some gd)) ∧ W.cell? ⟨gI, 0, none⟩ = some (.int .u16 71) ∧ W.cell? ⟨gI, 1, none⟩ = some (.int .u32 i.ty) ∧ W.cell? ⟨gI, 2, none⟩ = some (.int .u32 i.res) ∧ W.cell? ⟨gI, 3, none⟩ = some (.slice (some ⟨ab, ao, none⟩) i.args.length sc)) := fun W i1 i2 L mv h h1 h2 => ⟨h.below, h.cell i2 5 h2 rfl, h.cell i1 0 h1 rfl, h.cell i1 1 h1 rfl, h.cell i1 2 h1 rfl, h.cell i1 3 h1 rfl⟩
    have hlk : ∀ W i1 L, Own noX w L W → L[i1]? = some (mpA (.int .u32) keyU encDc gd f) → (Instr.lookup 399 (.map (some gd)) (.int .u32 vid) false).run Tryz.prog W = .ok (.slice none 0 0) W := fun W i1 L h h1 => (h.at i1 h1 : Mp _ _ _ _ _ _).miss keysU Tryz.underlying399 Tryz.underlying23 hfn (zeroDc W) false
    have hSw := mkS5 _ 0 2 _ .nilFunc HO.drew rfl rfl
    refine wp_region_s (S := fun W => Below w.heap.size w W ∧ W.cell? ⟨gK, 5, none⟩ = some (.map (some gd)) ∧ W.cell? ⟨gI, 0, none⟩ = some (.int .u16 71) ∧ W.cell? ⟨gI, 1, none⟩ = some (.int .u32 i.ty) ∧ W.cell? ⟨gI, 2, none⟩ = some (.int .u32 i.res) ∧ W.cell? ⟨gI, 3, none⟩ = some (.slice (some ⟨ab, ao, none⟩) i.args.length sc)) (by kernel_rfl) ?_
    refine sTp hcl 0 ?_
    refine sTp hcl 1 ?_
    refine sTp hcl 2 ?_
    refine sTk hcl 3 (v := ?_) (hm := ⟨by rfl, .inl ?_⟩) (hSw := hSw) (h := ?_)
    rotate_left
    ·(intro w hw; have q1 := hw.2.1; go_simp; first | done | with_reducible rfl)
    try simp only [Act.put, zTa, zTz, zTs]
    refine sTp hcl 4 ?_
    refine sTk hcl 5 (v := ?_) (hm := ⟨by rfl, .inl ?_⟩) (hSw := hSw) (h := ?_)
    rotate_left
    ·(intro w hw; have q1 := hw.2.2.2.2.2; go_simp; first | done | with_reducible rfl)
    try simp only [Act.put, zTa, zTz, zTs]
    refine sTp hcl 6 ?_
    refine sTp hcl 7 ?_
    refine sTk hcl 8 (v := ?_) (hm := ⟨by rfl, .inl ?_⟩) (hSw := hSw) (h := ?_)
    rotate_left
    ·(intro w hw; have q1 := (hw.1.cell (p := ⟨ab, ao + 1, none⟩) hal).trans q0; go_simp; first | done | with_reducible rfl)
    try simp only [Act.put, zTa, zTz, zTs]
    refine sTp hcl 9 ?_
    refine sTp hcl 10 ?_
    refine sTp hcl 11 ?_
    refine sTk hcl 12 (v := ?_) (hm := ⟨by rfl, .inl ?_⟩) (hSw := hSw) (h := ?_)
    rotate_left
    ·(intro w hw; have q1 := hw.2.1; go_simp; first | done | with_reducible rfl)
    try simp only [Act.put, zTa, zTz, zTs]
    refine sTp hcl 13 ?_
    refine sTk hcl 14 (v := ?_) (hm := ⟨by rfl, .inl ?_⟩) (hSw := hSw) (h := ?_)
    rotate_left
    ·(intro w hw; have q1 := hw.2.2.2.2.2; go_simp; first | done | with_reducible rfl)
    try simp only [Act.put, zTa, zTz, zTs]
    refine sTp hcl 15 ?_
    refine sTp hcl 16 ?_
    refine sTk hcl 17 (v := ?_) (hm := ⟨by rfl, .inl ?_⟩) (hSw := hSw) (h := ?_)
    rotate_left
    ·(intro w hw; have q1 := (hw.1.cell (p := ⟨ab, ao + 1, none⟩) hal).trans q0; go_simp; first | done | with_reducible rfl)
    try simp only [Act.put, zTa, zTz, zTs]
    refine sTk hcl 19 (v := ?_) (hm := ⟨by rfl, .inl ?_⟩) (hSw := hSw) (h := ?_)
    rotate_left
    ·(intro w hw; have q1 := hw.2.2.1; have q2 := hw.2.2.2.1; have q3 := hw.2.2.2.2.1; have q4 := hw.2.2.2.2.2; go_simp; first | done | with_reducible rfl)
    try simp only [Act.put, zTa, zTz, zTs]
    refine wpS_ready (rs := [18, 20]) (by kernel_rfl) (by simp) (fun W2 hW2 => ?_)
    replace HO := HO.drew.then hW2
    clear hW2 hSw
    apply merge_W
    case h2 =>
     intro key
     refine AllReadyS.cons (by simp only [zGa, zGs, zGz]; rfl) (fun K hK => ?_) (AllReadyS.cons (by simp only [zGa, zGs, zGz]; rfl) (fun K hK => ?_) AllReadyS.nil)
     ·have hl := hlk _ 3 _ HO rfl
      go_simp
      refine hK.out _ _ (mkS5 _ 0 2 _ .nilFunc HO rfl rfl) ?_
      clear hK K hl
      try simp only [Act.put, zTa, zTz, zTs]
      refine wpS_ready (rs := [20]) (by kernel_rfl) (by simp) (fun W3 hW3 => ?_)
      have HN := HO.then hW3
      refine sR1 (fun K hK => ?_)
      go_simp
      refine hK.out _ _ (mkS5 _ 1 3 _ .nilFunc (HN.alloc _) rfl rfl) ?_
      clear hK K
      try simp only [Act.put, zTa, zTz, zTs]
      refine ft_alloc HN ?_
      generalize W3.heap.size = H
      intro W4 HN2
      exact key H W4 HN2
     ·go_simp
      refine hK.out _ _ (mkS5 _ 1 3 _ .nilFunc (HO.alloc _) rfl rfl) ?_
      clear hK K
      try simp only [Act.put, zTa, zTz, zTs]
      refine ft_alloc HO ?_
      generalize W2.heap.size = H
      intro W3 HN
      refine wpS_ready (rs := [18]) (by kernel_rfl) (by simp) (fun W4 hW4 => ?_)
      replace HN := HN.then hW4
      have hl := hlk _ 4 _ HN rfl
      refine sR1 (fun K hK => ?_)
      go_simp
      refine hK.out _ _ (mkS5 _ 1 3 _ .nilFunc HN rfl rfl) ?_
      clear hK K hl
      try simp only [Act.put, zTa, zTz, zTs]
      exact key H W4 HN
    clear HO
    intro H W4 HO
    replace HO := HO.row w.heap.size 43 4
    refine wpS_ready (rs := [21]) (by kernel_rfl) (by simp) (fun W5 hW5 => ?_)
    replace HO := HO.then hW5
    clear hW5 W4
    refine sR1 (fun K hK => ?_)
    refine sp_append_step HO el_inst 0 1 rfl rfl rfl _ _ rfl rfl rfl rfl (by simp [Value.oneCell']) (by omega) (by omega) (Nat.le_refl _) ?_
    intro gO cO W6 HP
    simp only [List.set_cons_zero, List.set_cons_succ, List.nil_append] at HP
    refine hK.out _ _ (mkS5 _ 2 4 _ .nilFunc HP rfl rfl) ?_
    clear hK K HO
    try simp only [Act.put, zTa, zTz, zTs]
    refine wpS_ready (rs := [22]) (by kernel_rfl) (by simp) (fun W7 hW7 => ?_)
    replace HP := HP.then hW7
    clear hW7
    obtain ⟨o2, hup, hm2⟩ := Mp.put (HP.at 5 rfl) keysU Tryz.underlying399 Tryz.underlying23 vid (encDc ⟨gO, cO, k⟩) ⟨gO, cO, k⟩ (fun _ _ _ h => h) (fun _ => rfl)
    have hup2 : (Instr.mapUpdate 399 (.map (some gd)) (.int .u32 vid) (.slice (some ⟨gO, 0, none⟩) 1 cO)).run Tryz.prog W7 = .ok () (putMap W7 gd o2) := hup
    have HQ := HP.map 5 o2 rfl hm2
    simp only [List.set_cons_zero, List.set_cons_succ] at HQ
    refine sR1 (fun K hK => ?_)
    go_simp
    refine hK.out _ _ (mkS5 _ 2 4 _ .nilFunc HQ rfl rfl) ?_
    clear hK K hup hup2 hm2 HP
    try simp only [Act.put, zTa, zTz, zTs]
    refine wpS_done (by kernel_rfl) (fun W8 hW8 => ?_) _
    replace HQ := HQ.then hW8
    clear hW8 mkS5 hlk hcl
    have HO := HQ
    clear HQ
    replace HO := HO.pull 2 rfl
    simp only [List.eraseIdx_cons_zero, List.eraseIdx_cons_succ] at HO
    replace HO := HO.pull 2 rfl
    simp only [List.eraseIdx_cons_zero, List.eraseIdx_cons_succ] at HO
    replace HO := HO.pull 3 rfl
    simp only [List.eraseIdx_cons_zero, List.eraseIdx_cons_succ] at HO
    replace HO := HO.pull 3 rfl
    simp only [List.eraseIdx_cons_zero, List.eraseIdx_cons_succ] at HO
    have hcells : [Value.int .u16 71, Value.int .u32 i.ty, Value.int .u32 i.res, Value.slice (some ⟨ab, ao, none⟩) i.args.length sc] = (fcCells (l.getD k noIn) (sv k)).toList := by rw [HS2.out, hge.out]; simp [fcCells, hop]
    rw [hcells] at HO
    replace HO := HO.dec k vid
    go_wp2_with fail
    exact ⟨⟨k + 1, HLT.out, by go_num, ⟨kup f vid ⟨gO, cO, k⟩, _, fun v => by rw [hfk.out]; unfold kup; by_cases e : v = vid <;> simp [e, HF.out v], by rw [hL0.out]; exact HO.sub (.cons_cons _ (.cons _ (.cons _ (List.Sublist.refl _))))⟩⟩, by have := HLT.out; simp [intOf]; omega⟩
   ·rw [if_neg h71] at hfk
    have i3 : ((i.op : Int) == 71) = false := by rw [beq_eq_false_iff_ne]; omega
    (try simp only [zTz, zTs, zTa, zDs, zDz] at HO); (try have kk := HO.kk)
    go_wp2_with (first | ((first | (with_reducible refine sp_al HO ?_; clear HO; (try clear kk); intro g hg W' HO; rw [← hg.out]; clear hg) | (with_reducible refine sp_sk HO ?_; clear HO; (try clear kk); intro W' HO) | (with_reducible refine sp_skc HO ?_; clear HO; (try clear kk); intro W' HO) | (refine sp_wk HO rfl 43 _ _ rfl rfl rfl (by kernel_rfl) (by rfl) (by simp [Value.oneCell']) ?_; clear HO; (try clear kk); intro W' HO)); (try simp only [zTz, zTs, zTa] at HO); (try have kk := HO.kk)))
    exact ⟨⟨k + 1, HLT.out, by go_num, ⟨f, D, fun v => by rw [hfk.out]; exact HF.out v, by rw [hL0.out]; exact HO.drop 1⟩⟩, by have := HLT.out; simp [intOf]; omega⟩
  ·obtain rfl : k = l.length := by omega
   have i2 : ¬ ((l.length : Nat) : Int) < l.length := by omega
   (try simp only [zTz, zTs, zTa, zDs, zDz] at HO); (try have kk := HO.kk)
   have n5 : gSp ≠ gSp3 := HO.ne 6 7 rfl rfl (by omega)
   have z5 := HO.lt 6 rfl
   have z3 := HO.lt 7 rfl
   go_wp2_with fail
   go_region
   go_wp2_with fail
   have H := ((HO.set 7 0 (.int .i64 0) rfl).set 7 1 (.int .i64 0) rfl).drew
   refine bodyPost_ret_by (res_tmp_row rfl _ _ _ 36 #[.int .i64 0, .int .i64 0] _ _ rfl (H.blk 7 rfl) Tryz.underlying36 rfl infoSpt) rfl ?_
   exact ⟨_, _, _, _, _, _, _, _, _, _, _, _, _, _, _, _, _, rfl, HF.out, H.sub (.cons_cons _ (.cons_cons _ (.cons_cons _ (.cons_cons _ (.cons_cons _ (.cons_cons _ (.cons _ (.cons _ (.cons _ .slnil)))))))))⟩
end Go.Proofs.YtindnnbopaeklaaGreatDoor
