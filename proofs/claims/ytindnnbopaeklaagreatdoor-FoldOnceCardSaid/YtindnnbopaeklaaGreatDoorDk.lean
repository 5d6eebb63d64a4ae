/- Fold: Module, to what replaces what. -/
import Derived.Test.YtindnnbopaeklaaGreatDoorDj
namespace Go.Proofs.YtindnnbopaeklaaGreatDoor
set_option linter.unusedVariables false
set_option linter.unusedSimpArgs false
set_option maxRecDepth 100000
set_option maxHeartbeats 4000000
open Go.RowKit Go.MapKept
theorem infoMdl3 : (Tryz.prog.info? 28).map (·.size) = some 3 := by kernel_rfl
theorem zeroTo (w : World) : (zeroValue 23).run Tryz.prog w = .ok (.int .u32 0) w := by kernel_rfl
def encU (x : Nat) : Value := .int .u32 x
def subA (r : Nat) (a : Ag) : Ag := if a.kind = 1 ∧ a.n = 7 then ⟨a.kind, r, a.s⟩ else a
def subI (r : Nat) (i : In) : In := ⟨i.op, i.ty, i.res, i.args.map (subA r)⟩
def outL (l LM : List In) (r : Nat) : Nat → List In
 | 0 => []
 | k + 1 => outL l LM r k ++ (if k = 5 then LM else []) ++ (if k = 7 then [] else [subI r (l.getD k noIn)])
def mixA (r : Nat) : List Ag → Nat → List Ag
 | l, 0 => l
 | [], _ + 1 => []
 | a :: l, j + 1 => subA r a :: mixA r l j
theorem mix_zero (r : Nat) (l : List Ag) : mixA r l 0 = l := by cases l <;> rfl
theorem mix_get (r : Nat) : ∀ (l : List Ag) (j : Nat) (h : j < l.length), (mixA r l j)[j]? = some l[j]
 | [], j, h => absurd h (Nat.not_lt_zero _)
 | a :: l, 0, _ => rfl
 | a :: l, j + 1, h => mix_get r l j (Nat.lt_of_succ_lt_succ h)
theorem mix_set (r : Nat) : ∀ (l : List Ag) (j : Nat) (h : j < l.length), (mixA r l j).set j (subA r l[j]) = mixA r l (j + 1)
 | [], j, h => absurd h (Nat.not_lt_zero _)
 | a :: l, 0, _ => by cases l <;> rfl
 | a :: l, j + 1, h => congrArg (List.cons (subA r a)) (mix_set r l j (Nat.lt_of_succ_lt_succ h))
theorem mix_all (r : Nat) : ∀ (l : List Ag), mixA r l l.length = l.map (subA r)
 | [] => rfl
 | a :: l => congrArg (List.cons (subA r a)) (mix_all r l)
theorem mix_cells {r : Nat} {l : List Ag} {j : Nat} (h : j < l.length) : ((mixA r l j).flatMap agCells)[j * 3]? = some (.int .u8 l[j].kind) ∧ ((mixA r l j).flatMap agCells)[j * 3 + 1]? = some (.int .u32 l[j].n) ∧ ((mixA r l j).flatMap agCells)[j * 3 + 2]? = some (.string l[j].s) := by
 have hg := mix_get r l j h
 obtain ⟨hj, e⟩ := List.getElem?_eq_some_iff.1 hg
 have := agCells_get (mixA r l j) j hj
 rwa [e] at this
theorem mix_turn {r : Nat} {l : List Ag} {j : Nat} (h : j < l.length) (hk : l[j].kind = 1) (hn : l[j].n = 7) : ((mixA r l j).flatMap agCells).set (j * 3 + 1) (.int .u32 r) = (mixA r l (j + 1)).flatMap agCells := by
 have hg := mix_get r l j h
 obtain ⟨hj, e⟩ := List.getElem?_eq_some_iff.1 hg
 rw [agCells_set _ j hj, e, ← mix_set r l j h, subA, if_pos ⟨hk, hn⟩]
theorem mix_keep {r : Nat} {l : List Ag} {j : Nat} (h : j < l.length) (hk : ¬ (l[j].kind = 1 ∧ l[j].n = 7)) : mixA r l (j + 1) = mixA r l j := by
 have hg := mix_get r l j h
 obtain ⟨hj, e⟩ := List.getElem?_eq_some_iff.1 hg
 rw [← mix_set r l j h, subA, if_neg hk, ← e]
 exact List.set_getElem_self hj
theorem outL_len (l LM : List In) (r : Nat) : ∀ k, (outL l LM r k).length ≤ k * (1 + LM.length)
 | 0 => Nat.zero_le _
 | k + 1 => by
  have ih := outL_len l LM r k
  unfold outL
  rw [List.length_append, List.length_append, Nat.add_mul]
  have h1 : (if k = 7 then ([] : List In) else [subI r (l.getD k noIn)]).length ≤ 1 := by split <;> simp
  have h2 : (if k = 5 then LM else []).length ≤ LM.length := by split <;> simp
  omega
structure OutSt (w : World) (gO gen bd : Nat) (l LM : List In) (r : Nat) (pm : List Pr) (L4 : List As) (k : Nat) (W : World) : Prop where
 at_ : ∃ q po D v, (∀ x ∈ po, x ∈ q) ∧ (∀ x ∈ pm, x ∈ q) ∧ po.map Prod.fst = outL l LM r k ∧ Own noX w (rw_ w.heap.size 43 4 v po.length (flatI po) :: argsA D q :: cls gO #[.int .u32 gen, .int .u32 bd, v] 28 :: L4) W
theorem OutSt.push {w W : World} {gO gen bd : Nat} {l LM : List In} {r : Nat} {pm : List Pr} {L4 : List As} {k : Nat} {q po : List Pr} {D : Nat → Prop} {v : Value} {i : In} {n : Nat} {xs : List Value} (x : Pr) (hx : x.1 = subI r i) (hgd : l.getD k noIn = i) (h7 : k ≠ 7) (hm : po.map Prod.fst = outL l LM r k ++ (if k = 5 then LM else [])) (h1 : ∀ y ∈ po, y ∈ q) (h2 : ∀ y ∈ pm, y ∈ q) (hn : n = po.length + 1) (hxs : xs = flatI po ++ [.int .u16 x.1.op, .int .u32 x.1.ty, .int .u32 x.1.res, .slice x.2.1 x.1.args.length x.2.2])
  (H : Own noX w (rw_ w.heap.size 43 4 v n xs :: argsA D (q ++ [x]) :: cls gO #[.int .u32 gen, .int .u32 bd, v] 28 :: L4) W) : OutSt w gO gen bd l LM r pm L4 (k + 1) W := by
 refine ⟨q ++ [x], po ++ [x], D, v, fun y hy => ?_, fun y hy => List.mem_append_left _ (h2 y hy), ?_, ?_⟩
 ·rcases List.mem_append.1 hy with hy | hy
  ·exact List.mem_append_left _ (h1 y hy)
  ·exact List.mem_append_right _ hy
 ·rw [List.map_append, hm, outL, if_neg h7, hgd, ← hx]
  rfl
 ·rw [flatI_snoc, List.length_append, List.length_singleton, ← hn, ← hxs]
  exact H
def FmEnd (gen bd : Nat) (out : List In) (w : World) (e : Ending) (w' : World) : Prop :=
 ∃ g c sv, e = .returned (.tuple #[.agg #[.int .u32 gen, .int .u32 bd, .slice (some ⟨g, 0, none⟩) out.length c], .agg #[.int .i64 0, .int .i64 0]]) ∧ Ms w' g 0 out sv ∧ Below w.heap.size w w'
theorem fmodule_own (there : Bool) (r gen bound b o cap ty x0 x1 y0 y1 z : Nat) (tab : Nat → Option TyD) (cv : Nat → Option (Nat × Nat)) (l : List In) (sv : Nat → Option Addr × Nat) (t : Nat → Nat) (w : World) (hM : Ms w b o l sv) (hlen : l.length ≤ 2000) (h9 : 9 ≤ l.length) (hcap : l.length ≤ cap)
  (hres : ∀ k (hk : k < l.length), l[k].res = 7 ↔ k = 7) (hop : ∀ k (hk : k < l.length), l[k].op ≠ 5 ∧ l[k].op ≠ 6 ∧ l[k].op ≠ 71)
  (f0 : cv x0 = some (ty, y0)) (f1 : cv x1 = some (ty, y1)) (hk : (getD_ tab ty).kind = 3) (hz : z < 4294967296) (hb : bound + 1 < 4294967296) (ht : there = true → (y0 = z ∨ y1 = z) ∧ r = if y0 = z then x0 else x1) (hf : there = false → y0 ≠ z ∧ y1 ≠ z ∧ r = bound)
  (ht8 : t 8 = 5) (hnil : ∀ k (hk : k < l.length), l[k].args = [] → sv k = (none, 0)) (hags : ∀ k (hk : k < l.length), l[k].args.length ≤ 1000)
  (hE : 0 < (outL l (madeL there ty r z) r l.length).length ∧ Sound (bound + (madeL there ty r z).length) (outL l (madeL there ty r z) r l.length) ∧ ∀ k (hk : k < (outL l (madeL there ty r z) r l.length).length), InFit (outL l (madeL there ty r z) r l.length)[k])
  (cR : ∀ W, Below w.heap.size w W → Calls Tryz.prog 14 #[.agg #[.int .u32 gen, .int .u32 bound, .slice (some ⟨b, o, none⟩) l.length cap]] W fun e w' => FdEnd gen bound (.slice (some ⟨b, o, none⟩) l.length cap) ty tab cv [x0, x1] z W e w')
  (cP : ∀ W, Below w.heap.size w W → Calls Tryz.prog 19 #[.agg #[.int .u32 gen, .int .u32 bound, .slice (some ⟨b, o, none⟩) l.length cap]] W fun e w' => e = .returned (.tuple #[partsVal t l.length, .agg #[.int .i64 0, .int .i64 0]]) ∧ Below W.heap.size W w') :
  Calls Tryz.prog 9 #[.agg #[.int .u32 gen, .int .u32 bound, .slice (some ⟨b, o, none⟩) l.length cap]] w fun e w' => FmEnd gen (bound + (madeL there ty r z).length) (outL l (madeL there ty r z) r l.length) w e w' := by
 have hpv : partsVal t l.length = .agg #[.int .i64 (psAll t l.length 0), .int .i64 (psAll t l.length 1), .int .i64 (psAll t l.length 2), .int .i64 (psAll t l.length 3), .int .i64 (psAll t l.length 4), .int .i64 (psAll t l.length 5), .int .i64 (psAll t l.length 6), .int .i64 (psAll t l.length 7), .int .i64 (psAll t l.length 8), .int .i64 (psAll t l.length 9), .int .i64 (psAll t l.length 10), .int .i64 (psAll t l.length 11), .int .i64 (psAll t l.length 12), .int .i64 (psAll t l.length 13), .int .i64 (psAll t l.length 14), .int .i64 (psAll t l.length 15), .int .i64 (psAll t l.length 16), .int .i64 (psAll t l.length 17), .int .i64 (psAll t l.length 18), .int .i64 (psAll t l.length 19)] := rfl
 have p15 : psAll t l.length 15 = 5 := by show ((t 8 : Nat) : Int) = 5; rw [ht8]; rfl
 rw [hpv, p15] at cP
 clear hpv p15
 generalize psAll t l.length = ps at cP
 have HE := hid hE
 clear hE
 have HM := hid hM
 have HR := hid (And.intro hres hop)
 have HT := hid (And.intro ht hf)
 have HF := hid (And.intro f0 (And.intro f1 (And.intro hk (And.intro hz hb))))
 clear hM hres hop ht hf f0 f1 hk
 have HO := Own.nil w
 have hmm := @run_makeMap Tryz.prog
 have cN := fun (F M : Nat) (L : List As) (W : World) (H : Own noX w L W) => constants_own F M w L W H
 go_enter Tryz.func9, Tryz.ntmps9
 go_wp2_with (first | ((first | ((with_reducible first | refine sp_al HO ?_ | refine sp_alc HO ?_); intro g hg; rw [← hg.out]; clear hg) | (with_reducible first | refine sp_sk HO ?_ | refine sp_skc HO ?_) | (refine sp_wk HO rfl 36 _ _ rfl rfl rfl (by kernel_rfl) (by rfl) (by simp [Value.oneCell']) ?_)); clear HO; (try clear kk); intro W' HO; (try simp only [zTz, zTs, zTa] at HO); (try have kk := HO.kk)) | (go_at_call 14; (with_reducible refine (cR _ HO.below).mono ?_); rintro e w1 ⟨F, P, T, sb, sc, km, lo, hi, l2, h2, gv, c, rfl, h2'⟩; replace HO := HO.app h2'; clear h2'; (try simp only [List.cons_append, List.nil_append, fCells] at HO); (try clear kk); (try simp only [zTz, zTs, zTa, zDs, zDz] at HO); (try have kk := HO.kk)) | (go_at_call 18; (with_reducible refine (cN _ _ _ _ HO).mono ?_); rintro e w1 ⟨A, O, B, V, rfl, H'⟩; clear HO; have HO := H'; clear H'; (try clear kk); (try simp only [zTz, zTs, zTa, zDs, zDz] at HO); (try have kk := HO.kk)))
 (try clear kk)
 clear cR cN
 replace HO := HO.recast 0 (A' := mpA (.int .u32) keyU encU g (fun _ => none)) rfl (fun k hk => hk) (mp_new (HO.blk 0 rfl))
 simp only [List.set_cons_zero] at HO
 obtain ⟨gT, rfl⟩ : ∃ q, q = g := ⟨_, rfl⟩
 replace HO := HO.pull 14 rfl
 simp only [List.eraseIdx_cons_zero, List.eraseIdx_cons_succ] at HO
 replace HO := HO.pull 14 rfl
 simp only [List.eraseIdx_cons_zero, List.eraseIdx_cons_succ] at HO
 replace HO := HO.pull 14 rfl
 simp only [List.eraseIdx_cons_zero, List.eraseIdx_cons_succ] at HO
 replace HO := HO.pull 12 rfl
 simp only [List.eraseIdx_cons_zero, List.eraseIdx_cons_succ] at HO
 replace HO := HO.pull 10 rfl
 simp only [List.eraseIdx_cons_zero, List.eraseIdx_cons_succ] at HO
 replace HO := HO.pull 11 rfl
 simp only [List.eraseIdx_cons_zero, List.eraseIdx_cons_succ] at HO
 replace HO := HO.pull 6 rfl
 simp only [List.eraseIdx_cons_zero, List.eraseIdx_cons_succ] at HO
 replace HO := HO.pull 14 rfl
 simp only [List.eraseIdx_cons_zero, List.eraseIdx_cons_succ] at HO
 replace HO := HO.pull 14 rfl
 simp only [List.eraseIdx_cons_zero, List.eraseIdx_cons_succ] at HO
 replace HO := HO.pull 14 rfl
 simp only [List.eraseIdx_cons_zero, List.eraseIdx_cons_succ] at HO
 replace HO := HO.pull 14 rfl
 simp only [List.eraseIdx_cons_zero, List.eraseIdx_cons_succ] at HO
 replace HO := HO.pull 14 rfl
 simp only [List.eraseIdx_cons_zero, List.eraseIdx_cons_succ] at HO
 replace HO := HO.pull 14 rfl
 simp only [List.eraseIdx_cons_zero, List.eraseIdx_cons_succ] at HO
 replace HO := HO.pull 14 rfl
 simp only [List.eraseIdx_cons_zero, List.eraseIdx_cons_succ] at HO
 replace HO := HO.pull 14 rfl
 simp only [List.eraseIdx_cons_zero, List.eraseIdx_cons_succ] at HO
 rename_i gM V0 gRm V1 gSp V2 V3 gS5 V4 V5 V6 K1 a1
 obtain ⟨gm, rfl⟩ : ∃ q, q = g := ⟨_, rfl⟩
 obtain ⟨L2, hL2⟩ : ∃ L2 : List As, Hid (L2 = [mpA (.int .u32) keyU encKv km (kup (fun _ => none) 7 ⟨ty, gv, c⟩), cls gS5 #[.int .i64 0, .int .i64 0] 36, rw_ V2.heap.size 75 2 (.slice (some ⟨sb, 0, none⟩) 1 sc) 1 [.int .i64 6, .int .i64 9], cls gSp #[.int .i64 0, .int .i64 0] 36, cls gRm #[.int .u32 0, .int .u32 0, .slice none 0 0] 28, cls gM #[.int .u32 gen, .int .u32 bound, .slice (some ⟨b, o, none⟩) l.length cap] 28]) := ⟨_, hid rfl⟩
 obtain ⟨L1, hL1⟩ : ∃ L1 : List As, Hid (L1 = cls V #[findV A O B V] 69 :: cls O #[.slice none 0 0] 99 :: cls B #[.pointer (some ⟨gm, 0, none⟩)] 71 :: cls A #[.pointer (some ⟨F, 0, none⟩)] 52 :: cls gm #[.slice none 0 0] 26 :: cls F (fCells gen bound (.slice (some ⟨b, o, none⟩) l.length cap) P T (.slice (some ⟨sb, 0, none⟩) 1 sc) km) 66 :: deep lo hi (fun lo W => PnIn lo P T tab cv [x0, x1] W) :: deep l2 h2 (w1P gv z) :: mpA (.int .u32) keyU encU gT (fun _ => none) :: L2) := ⟨_, hid rfl⟩
 obtain ⟨L3, hL3⟩ : ∃ L3 : List As, Hid (L3 = cls F (fCells gen bound (.slice (some ⟨b, o, none⟩) l.length cap) P T (.slice (some ⟨sb, 0, none⟩) 1 sc) km) 66 :: deep lo hi (fun lo W => PnIn lo P T tab cv [x0, x1] W) :: deep l2 h2 (w1P gv z) :: mpA (.int .u32) keyU encU gT (kup (fun _ => none) 7 r) :: L2) := ⟨_, hid rfl⟩
 have H0 : Hid (Own noX w L1 W') := hid (by rw [hL1.out, hL2.out]; exact HO)
 clear HO
 unfold findV
 go_loopw [41] (fun x41 wr => ∃ k : Nat, k ≤ l.length ∧ x41 = .int .i64 k ∧ ((k ≤ 7 ∧ Own noX w L1 wr) ∨ (7 < k ∧ ∃ am cm p D, p.map Prod.fst = madeL there ty r z ∧ (there = true → am = none ∧ cm = 0) ∧ Own noX w (rw_ w.heap.size 43 4 (.slice am (madeL there ty r z).length cm) (madeL there ty r z).length (flatI p) :: argsA D p :: cls gm #[.slice am (madeL there ty r z).length cm] 26 :: L3) wr))) (fun x _ => l.length - (intOf x).toNat)
 case atStart => exact ⟨0, by omega, rfl, .inl ⟨by omega, H0.out⟩⟩
 case round =>
  obtain ⟨k, hk, rfl, hst⟩ := hrel
  clear H0
  have hmis : ∀ (x : Nat), x ≠ 7 → ∀ W, Mp (.int .u32) keyU (fun _ v x => v = encKv x) W km (kup (fun _ => none) 7 ⟨ty, gv, c⟩) → (Instr.lookup 59 (.map (some km)) (.int .u32 x) true).run Tryz.prog W = .ok (.tuple #[.agg #[.int .u32 0, .slice none 0 0], .bool false]) W := fun x hx W h => h.miss keysU Tryz.underlying59 Tryz.underlying23 (k := x) (if_neg hx) (zeroKv W) true
  by_cases hkl : k < l.length
  ·skip
   rcases hst with ⟨hk7, HO⟩ | ⟨hk7, am, cm, p, D, hp, hq, HO⟩
   ·rw [hL1.out, hL2.out] at HO
    unfold fCells at HO
    by_cases h7 : k = 7
    ·have HK7 := hid h7
     clear hk7 h7
     have hMM := HM.out.below HO.below
     have e0 := hMM.op k hkl
     have e1 := hMM.ty k hkl
     have e2 := hMM.res k hkl
     have e3 := hMM.args k hkl
     have zb := hMM.lt
     have hr7 := hid (HR.out.1 k hkl)
     have HK := hid hkl
     clear hMM
     have i2 : (k : Int) < l.length := by omega
     generalize l[k] = i at e0 e1 e2 e3 hr7
     generalize sv k = s at e3
     obtain ⟨sa, sl⟩ := s
     simp only at e3
     clear hkl
     (try simp only [zTz, zTs, zTa, zDs, zDz] at HO); (try have kk := HO.kk)
     go_wp2_with (first | ((first | (with_reducible refine sp_al HO ?_; intro g hg; rw [← hg.out]; clear hg) | (with_reducible first | refine sp_sk HO ?_ | refine sp_skc HO ?_) | (refine sp_wk HO rfl 43 _ _ rfl rfl rfl (by kernel_rfl) (by rfl) (by simp [Value.oneCell']) ?_)); clear HO; (try clear kk); intro W' HO; (try simp only [zTz, zTs, zTa] at HO); (try have kk := HO.kk)))
     obtain ⟨gI, rfl⟩ : ∃ q, q = g := ⟨_, rfl⟩
     (try clear kk)
     have hri := hid (hr7.out.2 HK7.out)
     have hhit : ∀ W, Mp (.int .u32) keyU (fun _ v x => v = encKv x) W km (kup (fun _ => none) 7 ⟨ty, gv, c⟩) → (Instr.lookup 59 (.map (some km)) (.int .u32 i.res) true).run Tryz.prog W = .ok (.tuple #[.agg #[.int .u32 ty, .slice (some ⟨gv, 0, none⟩) 1 c], .bool true]) W := fun W h => by
      obtain ⟨v, hv, hq⟩ := h.hit keysU Tryz.underlying59 Tryz.underlying23 (k := i.res) (x := ⟨ty, gv, c⟩) (if_pos hri.out)
      have hq := hq true
      rw [hv] at hq
      exact hq
     have hcl : ∀ (W W2 : World), (W.cell? ⟨F, 6, none⟩ = some (.map (some km)) ∧ W.cell? ⟨gI, 2, none⟩ = some (.int .u32 i.res) ∧ Mp (.int .u32) keyU (fun _ v x => v = encKv x) W km (kup (fun _ => none) 7 ⟨ty, gv, c⟩)) → Below W.heap.size W W2 → (W2.cell? ⟨F, 6, none⟩ = some (.map (some km)) ∧ W2.cell? ⟨gI, 2, none⟩ = some (.int .u32 i.res) ∧ Mp (.int .u32) keyU (fun _ v x => v = encKv x) W2 km (kup (fun _ => none) 7 ⟨ty, gv, c⟩)) := fun _ _ h k => ⟨cell_last h.1 (block_lt_of_cell h.1) k, cell_last h.2.1 (block_lt_of_cell h.2.1) k, h.2.2.other (k.block km h.2.2.lt) (fun _ _ e => e)⟩
     replace HO := HO.drew
     have hSw := (⟨HO.cell 6 6 rfl rfl, HO.cell 0 2 rfl rfl, HO.at 10 rfl⟩ : _ ∧ _ ∧ Mp (.int .u32) keyU (fun _ v x => v = encKv x) _ km (kup (fun _ => none) 7 ⟨ty, gv, c⟩))
     refine wp_region_s (S := fun W => W.cell? ⟨F, 6, none⟩ = some (.map (some km)) ∧ W.cell? ⟨gI, 2, none⟩ = some (.int .u32 i.res) ∧ Mp (.int .u32) keyU (fun _ v x => v = encKv x) W km (kup (fun _ => none) 7 ⟨ty, gv, c⟩)) (by kernel_rfl) ?_
     refine wpS_take hcl (i := 0) (v := ?_) (by simp only [List.getElem?_toArray, List.getElem?_cons_succ, List.getElem?_cons_zero]; rfl) (by kernel_rfl) (by kernel_rfl) (by kernel_rfl) (by exact fun _ _ _ h => h) ⟨by rfl, .inl ?_⟩ hSw ?_
     rotate_left
     ·(intro w hw; go_simp; first | done | with_reducible rfl)
     try simp only [Act.put, zTa, zTz, zTs]
     refine wpS_take hcl (i := 1) (v := ?_) (by simp only [List.getElem?_toArray, List.getElem?_cons_succ, List.getElem?_cons_zero]; rfl) (by kernel_rfl) (by kernel_rfl) (by kernel_rfl) (by exact fun _ _ _ h => h) ⟨by rfl, .inl ?_⟩ hSw ?_
     rotate_left
     ·(intro w hw; go_simp; first | done | with_reducible rfl)
     try simp only [Act.put, zTa, zTz, zTs]
     refine wpS_take hcl (i := 2) (v := ?_) (by simp only [List.getElem?_toArray, List.getElem?_cons_succ, List.getElem?_cons_zero]; rfl) (by kernel_rfl) (by kernel_rfl) (by kernel_rfl) (by exact fun _ _ _ h => h) ⟨by rfl, .inl ?_⟩ hSw ?_
     rotate_left
     ·(intro w hw; go_simp; first | done | with_reducible rfl)
     try simp only [Act.put, zTa, zTz, zTs]
     refine wpS_take hcl (i := 3) (v := ?_) (by simp only [List.getElem?_toArray, List.getElem?_cons_succ, List.getElem?_cons_zero]; rfl) (by kernel_rfl) (by kernel_rfl) (by kernel_rfl) (by exact fun _ _ _ h => h) ⟨by rfl, .inl ?_⟩ hSw ?_
     rotate_left
     ·(intro w hw; have q1 := hw.1; go_simp; first | done | with_reducible rfl)
     try simp only [Act.put, zTa, zTz, zTs]
     refine wpS_take hcl (i := 4) (v := ?_) (by simp only [List.getElem?_toArray, List.getElem?_cons_succ, List.getElem?_cons_zero]; rfl) (by kernel_rfl) (by kernel_rfl) (by kernel_rfl) (by exact fun _ _ _ h => h) ⟨by rfl, .inl ?_⟩ hSw ?_
     rotate_left
     ·(intro w hw; go_simp; first | done | with_reducible rfl)
     try simp only [Act.put, zTa, zTz, zTs]
     refine wpS_take hcl (i := 5) (v := ?_) (by simp only [List.getElem?_toArray, List.getElem?_cons_succ, List.getElem?_cons_zero]; rfl) (by kernel_rfl) (by kernel_rfl) (by kernel_rfl) (by exact fun _ _ _ h => h) ⟨by rfl, .inl ?_⟩ hSw ?_
     rotate_left
     ·(intro w hw; have q1 := hw.2.1; go_simp; first | done | with_reducible rfl)
     try simp only [Act.put, zTa, zTz, zTs]
     refine wpS_take hcl (i := 6) (v := ?_) (by simp only [List.getElem?_toArray, List.getElem?_cons_succ, List.getElem?_cons_zero]; rfl) (by kernel_rfl) (by kernel_rfl) (by kernel_rfl) (by exact fun _ _ _ h => h) ⟨by rfl, .inl ?_⟩ hSw ?_
     rotate_left
     ·(intro w hw; have q1 := hhit _ hw.2.2; go_simp; first | done | with_reducible rfl)
     try simp only [Act.put, zTa, zTz, zTs]
     refine wpS_take hcl (i := 7) (v := ?_) (by simp only [List.getElem?_toArray, List.getElem?_cons_succ, List.getElem?_cons_zero]; rfl) (by kernel_rfl) (by kernel_rfl) (by kernel_rfl) (by exact fun _ _ _ h => h) ⟨by rfl, .inl ?_⟩ hSw ?_
     rotate_left
     ·(intro w hw; go_simp; first | done | with_reducible rfl)
     try simp only [Act.put, zTa, zTz, zTs]
     refine wpS_take hcl (i := 8) (v := ?_) (by simp only [List.getElem?_toArray, List.getElem?_cons_succ, List.getElem?_cons_zero]; rfl) (by kernel_rfl) (by kernel_rfl) (by kernel_rfl) (by exact fun _ _ _ h => h) ⟨by rfl, .inl ?_⟩ hSw ?_
     rotate_left
     ·(intro w hw; go_simp; first | done | with_reducible rfl)
     try simp only [Act.put, zTa, zTz, zTs]
     refine wpS_take hcl (i := 9) (v := ?_) (by simp only [List.getElem?_toArray, List.getElem?_cons_succ, List.getElem?_cons_zero]; rfl) (by kernel_rfl) (by kernel_rfl) (by kernel_rfl) (by exact fun _ _ _ h => h) ⟨by rfl, .inl ?_⟩ hSw ?_
     rotate_left
     ·(intro w hw; go_simp; first | done | with_reducible rfl)
     try simp only [Act.put, zTa, zTz, zTs]
     refine wpS_ready (rs := [10]) (by kernel_rfl) (by simp) (fun W2 hW2 => ?_)
     replace HO := HO.then hW2
     clear hW2 hSw
     refine AllReadyS.cons (by simp only [List.getElem?_toArray, List.getElem?_cons_succ, List.getElem?_cons_zero]; rfl) (fun K hK => ?_) AllReadyS.nil
     go_simp
     have H := HO.alloc (.cells #[.int .u32 0, .slice none 0 0] 61 (0, 0))
     refine hK.out _ _ ⟨H.cell 7 6 rfl rfl, H.cell 1 2 rfl rfl, H.at 11 rfl⟩ ?_
     clear hK K HO
     try simp only [Act.put, zTa, zTz, zTs]
     obtain ⟨gE, hE⟩ : ∃ gE, Hid (gE = W2.heap.size) := ⟨_, hid rfl⟩
     rw [← hE.out] at H ⊢
     refine wpS_ready (rs := [11]) (by kernel_rfl) (by simp) (fun W3 hW3 => ?_)
     have HO := H.then hW3
     clear hW3 H
     have k0 := HO.cells 0 rfl
     have m0 := HO.melt 0 rfl
     refine AllReadyS.cons (by simp only [List.getElem?_toArray, List.getElem?_cons_succ, List.getElem?_cons_zero]; rfl) (fun K hK => ?_) AllReadyS.nil
     go_simp
     have H := (HO.set 0 0 (.int .u32 ty) rfl).set 0 1 ((.slice (some ⟨gv,0,none⟩) 1 c)) rfl
     have hSw := (⟨H.cell 7 6 rfl rfl, H.cell 1 2 rfl rfl, H.at 11 rfl⟩ : _ ∧ _ ∧ Mp (.int .u32) keyU (fun _ v x => v = encKv x) _ km (kup (fun _ => none) 7 ⟨ty, gv, c⟩))
     refine hK.out _ _ hSw ?_
     clear hK K k0 m0 HO
     try simp only [Act.put, zTa, zTz, zTs]
     refine wpS_take hcl (i := 12) (v := ?_) (by simp only [List.getElem?_toArray, List.getElem?_cons_succ, List.getElem?_cons_zero]; rfl) (by kernel_rfl) (by kernel_rfl) (by kernel_rfl) (by exact fun _ _ _ h => h) ⟨by rfl, .inl ?_⟩ hSw ?_
     rotate_left
     ·(intro w hw; go_simp; first | done | with_reducible rfl)
     try simp only [Act.put, zTa, zTz, zTs]
     refine wpS_done (by kernel_rfl) (fun W8 hW8 => ?_) _
     have HO := H.then hW8
     clear H hW8 hE hSw hcl
     simp only [List.set_cons_zero, List.setIfInBounds_toArray, List.set_cons_succ] at HO
     (try simp only [zTz, zTs, zTa, zDs, zDz] at HO); (try have kk := HO.kk)
     go_wp2_with fail
     (try clear kk)
     replace HO := HO.drew
     have hcl : ∀ (W W2 : World), (W.cell? ⟨gI, 2, none⟩ = some (.int .u32 i.res) ∧ W.cell? ⟨gE, 0, none⟩ = some (.int .u32 ty) ∧ W.cell? ⟨gE, 1, none⟩ = some (.slice (some ⟨gv, 0, none⟩) 1 c)) → Below W.heap.size W W2 → (W2.cell? ⟨gI, 2, none⟩ = some (.int .u32 i.res) ∧ W2.cell? ⟨gE, 0, none⟩ = some (.int .u32 ty) ∧ W2.cell? ⟨gE, 1, none⟩ = some (.slice (some ⟨gv, 0, none⟩) 1 c)) := fun _ _ h k => ⟨cell_last h.1 (block_lt_of_cell h.1) k, cell_last h.2.1 (block_lt_of_cell h.2.1) k, cell_last h.2.2 (block_lt_of_cell h.2.2) k⟩
     have hSw := And.intro (HO.cell 1 2 rfl rfl) (And.intro (HO.cell 0 0 rfl rfl) (HO.cell 0 1 rfl rfl))
     refine wp_region_s (S := fun W => W.cell? ⟨gI, 2, none⟩ = some (.int .u32 i.res) ∧ W.cell? ⟨gE, 0, none⟩ = some (.int .u32 ty) ∧ W.cell? ⟨gE, 1, none⟩ = some (.slice (some ⟨gv, 0, none⟩) 1 c)) (by kernel_rfl) ?_
     refine wpS_take hcl (i := 0) (v := ?_) (by simp only [List.getElem?_toArray, List.getElem?_cons_succ, List.getElem?_cons_zero]; rfl) (by kernel_rfl) (by kernel_rfl) (by kernel_rfl) (by exact fun _ _ _ h => h) ⟨by rfl, .inl ?_⟩ hSw ?_
     rotate_left
     ·(intro w hw; go_simp; first | done | with_reducible rfl)
     try simp only [Act.put, zTa, zTz, zTs]
     refine wpS_take hcl (i := 1) (v := ?_) (by simp only [List.getElem?_toArray, List.getElem?_cons_succ, List.getElem?_cons_zero]; rfl) (by kernel_rfl) (by kernel_rfl) (by kernel_rfl) (by exact fun _ _ _ h => h) ⟨by rfl, .inl ?_⟩ hSw ?_
     rotate_left
     ·(intro w hw; go_simp; first | done | with_reducible rfl)
     try simp only [Act.put, zTa, zTz, zTs]
     refine wpS_take hcl (i := 2) (v := ?_) (by simp only [List.getElem?_toArray, List.getElem?_cons_succ, List.getElem?_cons_zero]; rfl) (by kernel_rfl) (by kernel_rfl) (by kernel_rfl) (by exact fun _ _ _ h => h) ⟨by rfl, .inl ?_⟩ hSw ?_
     rotate_left
     ·(intro w hw; have q1 := hw.1; go_simp; first | done | with_reducible rfl)
     try simp only [Act.put, zTa, zTz, zTs]
     refine wpS_take hcl (i := 3) (v := ?_) (by simp only [List.getElem?_toArray, List.getElem?_cons_succ, List.getElem?_cons_zero]; rfl) (by kernel_rfl) (by kernel_rfl) (by kernel_rfl) (by exact fun _ _ _ h => h) ⟨by rfl, .inl ?_⟩ hSw ?_
     rotate_left
     ·(intro w hw; go_simp; first | done | with_reducible rfl)
     try simp only [Act.put, zTa, zTz, zTs]
     refine wpS_take hcl (i := 4) (v := ?_) (by simp only [List.getElem?_toArray, List.getElem?_cons_succ, List.getElem?_cons_zero]; rfl) (by kernel_rfl) (by kernel_rfl) (by kernel_rfl) (by exact fun _ _ _ h => h) ⟨by rfl, .inl ?_⟩ hSw ?_
     rotate_left
     ·(intro w hw; have q1 := hw.2.1; have q2 := hw.2.2; go_simp; first | done | with_reducible rfl)
     try simp only [Act.put, zTa, zTz, zTs]
     refine wpS_ready (rs := [5]) (by kernel_rfl) (by simp) (fun W2 hW2 => ?_)
     replace HO := HO.then hW2
     clear hW2 hSw
     refine AllReadyS.cons (by simp only [List.getElem?_toArray, List.getElem?_cons_succ, List.getElem?_cons_zero]; rfl) (fun K hK => ?_) AllReadyS.nil
     go_simp
     go_at_call 60
     replace HO := HO.pull 16 rfl
     simp only [List.eraseIdx_cons_zero, List.eraseIdx_cons_succ] at HO
     replace HO := HO.pull 16 rfl
     simp only [List.eraseIdx_cons_zero, List.eraseIdx_cons_succ] at HO
     replace HO := HO.pull 16 rfl
     simp only [List.eraseIdx_cons_zero, List.eraseIdx_cons_succ] at HO
     replace HO := HO.pull 16 rfl
     simp only [List.eraseIdx_cons_zero, List.eraseIdx_cons_succ] at HO
     replace HO := HO.pull 16 rfl
     simp only [List.eraseIdx_cons_zero, List.eraseIdx_cons_succ] at HO
     replace HO := HO.pull 16 rfl
     simp only [List.eraseIdx_cons_zero, List.eraseIdx_cons_succ] at HO
     replace HO := HO.pull 16 rfl
     simp only [List.eraseIdx_cons_zero, List.eraseIdx_cons_succ] at HO
     replace HO := HO.pull 8 rfl
     simp only [List.eraseIdx_cons_zero, List.eraseIdx_cons_succ] at HO
     replace HO := HO.pull 8 rfl
     simp only [List.eraseIdx_cons_zero, List.eraseIdx_cons_succ] at HO
     replace HO := HO.pull 16 rfl
     simp only [List.eraseIdx_cons_zero, List.eraseIdx_cons_succ] at HO
     replace HO := HO.pull 16 rfl
     simp only [List.eraseIdx_cons_zero, List.eraseIdx_cons_succ] at HO
     replace HO := HO.pull 16 rfl
     simp only [List.eraseIdx_cons_zero, List.eraseIdx_cons_succ] at HO
     replace HO := HO.pull 16 rfl
     simp only [List.eraseIdx_cons_zero, List.eraseIdx_cons_succ] at HO
     replace HO := HO.pull 16 rfl
     simp only [List.eraseIdx_cons_zero, List.eraseIdx_cons_succ] at HO
     replace HO := HO.pull 16 rfl
     simp only [List.eraseIdx_cons_zero, List.eraseIdx_cons_succ] at HO
     replace HO := HO.pull 16 rfl
     simp only [List.eraseIdx_cons_zero, List.eraseIdx_cons_succ] at HO
     replace HO := HO.pull 16 rfl
     simp only [List.eraseIdx_cons_zero, List.eraseIdx_cons_succ] at HO
     have cc := findx_own there r gen bound F gm A O B V P T lo hi l2 h2 gv c ty z x0 x1 y0 y1 km sb sc (.slice (some ⟨b, o, none⟩) l.length cap) tab cv w _ W2 HO HF.out.1 HF.out.2.1 HF.out.2.2.1 HF.out.2.2.2.1 (by have := HF.out.2.2.2.2; omega) HT.out.1 HT.out.2
     refine cc.mono ?_
     clear cc HO
     rintro e W5 ⟨rfl, am, cm, p, D, hp, hq, HO⟩
     have HP := hid (And.intro hp hq)
     clear hp hq
     have hSw := And.intro (HO.cell 7 2 rfl rfl) (And.intro (HO.cell 6 0 rfl rfl) (HO.cell 6 1 rfl rfl))
     refine hK.out _ _ hSw ?_
     clear hK K
     try simp only [Act.put, zTa, zTz, zTs]
     refine wpS_ready (rs := [6]) (by kernel_rfl) (by simp) (fun W6 hW6 => ?_)
     replace HO := HO.then hW6
     clear hW6 hSw
     obtain ⟨o2, hup, hm2⟩ := Mp.put (HO.at 8 rfl) keysU Tryz.underlying72 Tryz.underlying23 i.res (encU r) r (fun _ _ _ h => h) (fun _ => rfl)
     have hup2 : (Instr.mapUpdate 72 (.map (some gT)) (.int .u32 i.res) (.int .u32 r)).run Tryz.prog W6 = .ok () (putMap W6 gT o2) := hup
     have H := HO.map 8 o2 rfl hm2
     simp only [List.set_cons_zero, List.set_cons_succ] at H
     refine AllReadyS.cons (by simp only [List.getElem?_toArray, List.getElem?_cons_succ, List.getElem?_cons_zero]; rfl) (fun K hK => ?_) AllReadyS.nil
     go_simp
     have hSw := And.intro (H.cell 7 2 rfl rfl) (And.intro (H.cell 6 0 rfl rfl) (H.cell 6 1 rfl rfl))
     refine hK.out _ _ hSw ?_
     clear hK K hup hup2 hm2 HO
     try simp only [Act.put, zTa, zTz, zTs]
     refine wpS_done (by kernel_rfl) (fun W8 hW8 => ?_) _
     have HO := H.then hW8
     clear H hW8 hSw hcl
     rw [hri.out] at HO
     go_wp2_with fail
     exact ⟨⟨k + 1, HK.out, by go_num, .inr ⟨by have := HK7.out; omega, am, cm, p, D, HP.out.1, HP.out.2, by rw [hL3.out, hL2.out]; exact HO.sub (.cons_cons _ (.cons_cons _ (.cons_cons _ (.cons_cons _ (.cons_cons _ (.cons_cons _ (.cons _ (.cons _ (List.Sublist.refl _)))))))))⟩⟩, by have := HK.out; simp [intOf]; omega⟩
    ·have HK7 := hid (And.intro hk7 h7)
     clear hk7 h7
     have hMM := HM.out.below HO.below
     have e0 := hMM.op k hkl
     have e1 := hMM.ty k hkl
     have e2 := hMM.res k hkl
     have e3 := hMM.args k hkl
     have zb := hMM.lt
     have hr7 := hid (HR.out.1 k hkl)
     have HK := hid hkl
     clear hMM
     have i2 : (k : Int) < l.length := by omega
     generalize l[k] = i at e0 e1 e2 e3 hr7
     generalize sv k = s at e3
     obtain ⟨sa, sl⟩ := s
     simp only at e3
     clear hkl
     (try simp only [zTz, zTs, zTa, zDs, zDz] at HO); (try have kk := HO.kk)
     go_wp2_with (first | ((first | (with_reducible refine sp_al HO ?_; intro g hg; rw [← hg.out]; clear hg) | (with_reducible first | refine sp_sk HO ?_ | refine sp_skc HO ?_) | (refine sp_wk HO rfl 43 _ _ rfl rfl rfl (by kernel_rfl) (by rfl) (by simp [Value.oneCell']) ?_)); clear HO; (try clear kk); intro W' HO; (try simp only [zTz, zTs, zTa] at HO); (try have kk := HO.kk)))
     obtain ⟨gI, rfl⟩ : ∃ q, q = g := ⟨_, rfl⟩
     (try clear kk)
     have hm1 := hmis i.res (fun e => HK7.out.2 (hr7.out.1 e))
     have hcl : ∀ (W W2 : World), (W.cell? ⟨F, 6, none⟩ = some (.map (some km)) ∧ W.cell? ⟨gI, 2, none⟩ = some (.int .u32 i.res) ∧ Mp (.int .u32) keyU (fun _ v x => v = encKv x) W km (kup (fun _ => none) 7 ⟨ty, gv, c⟩)) → Below W.heap.size W W2 → (W2.cell? ⟨F, 6, none⟩ = some (.map (some km)) ∧ W2.cell? ⟨gI, 2, none⟩ = some (.int .u32 i.res) ∧ Mp (.int .u32) keyU (fun _ v x => v = encKv x) W2 km (kup (fun _ => none) 7 ⟨ty, gv, c⟩)) := fun _ _ h k => ⟨cell_last h.1 (block_lt_of_cell h.1) k, cell_last h.2.1 (block_lt_of_cell h.2.1) k, h.2.2.other (k.block km h.2.2.lt) (fun _ _ e => e)⟩
     replace HO := HO.drew
     have hSw := (⟨HO.cell 6 6 rfl rfl, HO.cell 0 2 rfl rfl, HO.at 10 rfl⟩ : _ ∧ _ ∧ Mp (.int .u32) keyU (fun _ v x => v = encKv x) _ km (kup (fun _ => none) 7 ⟨ty, gv, c⟩))
     refine wp_region_s (S := fun W => W.cell? ⟨F, 6, none⟩ = some (.map (some km)) ∧ W.cell? ⟨gI, 2, none⟩ = some (.int .u32 i.res) ∧ Mp (.int .u32) keyU (fun _ v x => v = encKv x) W km (kup (fun _ => none) 7 ⟨ty, gv, c⟩)) (by kernel_rfl) ?_
     refine wpS_take hcl (i := 0) (v := ?_) (by simp only [List.getElem?_toArray, List.getElem?_cons_succ, List.getElem?_cons_zero]; rfl) (by kernel_rfl) (by kernel_rfl) (by kernel_rfl) (by exact fun _ _ _ h => h) ⟨by rfl, .inl ?_⟩ hSw ?_
     rotate_left
     ·(intro w hw; go_simp; first | done | with_reducible rfl)
     try simp only [Act.put, zTa, zTz, zTs]
     refine wpS_take hcl (i := 1) (v := ?_) (by simp only [List.getElem?_toArray, List.getElem?_cons_succ, List.getElem?_cons_zero]; rfl) (by kernel_rfl) (by kernel_rfl) (by kernel_rfl) (by exact fun _ _ _ h => h) ⟨by rfl, .inl ?_⟩ hSw ?_
     rotate_left
     ·(intro w hw; go_simp; first | done | with_reducible rfl)
     try simp only [Act.put, zTa, zTz, zTs]
     refine wpS_take hcl (i := 2) (v := ?_) (by simp only [List.getElem?_toArray, List.getElem?_cons_succ, List.getElem?_cons_zero]; rfl) (by kernel_rfl) (by kernel_rfl) (by kernel_rfl) (by exact fun _ _ _ h => h) ⟨by rfl, .inl ?_⟩ hSw ?_
     rotate_left
     ·(intro w hw; go_simp; first | done | with_reducible rfl)
     try simp only [Act.put, zTa, zTz, zTs]
     refine wpS_take hcl (i := 3) (v := ?_) (by simp only [List.getElem?_toArray, List.getElem?_cons_succ, List.getElem?_cons_zero]; rfl) (by kernel_rfl) (by kernel_rfl) (by kernel_rfl) (by exact fun _ _ _ h => h) ⟨by rfl, .inl ?_⟩ hSw ?_
     rotate_left
     ·(intro w hw; have q1 := hw.1; go_simp; first | done | with_reducible rfl)
     try simp only [Act.put, zTa, zTz, zTs]
     refine wpS_take hcl (i := 4) (v := ?_) (by simp only [List.getElem?_toArray, List.getElem?_cons_succ, List.getElem?_cons_zero]; rfl) (by kernel_rfl) (by kernel_rfl) (by kernel_rfl) (by exact fun _ _ _ h => h) ⟨by rfl, .inl ?_⟩ hSw ?_
     rotate_left
     ·(intro w hw; go_simp; first | done | with_reducible rfl)
     try simp only [Act.put, zTa, zTz, zTs]
     refine wpS_take hcl (i := 5) (v := ?_) (by simp only [List.getElem?_toArray, List.getElem?_cons_succ, List.getElem?_cons_zero]; rfl) (by kernel_rfl) (by kernel_rfl) (by kernel_rfl) (by exact fun _ _ _ h => h) ⟨by rfl, .inl ?_⟩ hSw ?_
     rotate_left
     ·(intro w hw; have q1 := hw.2.1; go_simp; first | done | with_reducible rfl)
     try simp only [Act.put, zTa, zTz, zTs]
     refine wpS_take hcl (i := 6) (v := ?_) (by simp only [List.getElem?_toArray, List.getElem?_cons_succ, List.getElem?_cons_zero]; rfl) (by kernel_rfl) (by kernel_rfl) (by kernel_rfl) (by exact fun _ _ _ h => h) ⟨by rfl, .inl ?_⟩ hSw ?_
     rotate_left
     ·(intro w hw; have q1 := hm1 _ hw.2.2; go_simp; first | done | with_reducible rfl)
     try simp only [Act.put, zTa, zTz, zTs]
     refine wpS_take hcl (i := 7) (v := ?_) (by simp only [List.getElem?_toArray, List.getElem?_cons_succ, List.getElem?_cons_zero]; rfl) (by kernel_rfl) (by kernel_rfl) (by kernel_rfl) (by exact fun _ _ _ h => h) ⟨by rfl, .inl ?_⟩ hSw ?_
     rotate_left
     ·(intro w hw; go_simp; first | done | with_reducible rfl)
     try simp only [Act.put, zTa, zTz, zTs]
     refine wpS_take hcl (i := 8) (v := ?_) (by simp only [List.getElem?_toArray, List.getElem?_cons_succ, List.getElem?_cons_zero]; rfl) (by kernel_rfl) (by kernel_rfl) (by kernel_rfl) (by exact fun _ _ _ h => h) ⟨by rfl, .inl ?_⟩ hSw ?_
     rotate_left
     ·(intro w hw; go_simp; first | done | with_reducible rfl)
     try simp only [Act.put, zTa, zTz, zTs]
     refine wpS_take hcl (i := 9) (v := ?_) (by simp only [List.getElem?_toArray, List.getElem?_cons_succ, List.getElem?_cons_zero]; rfl) (by kernel_rfl) (by kernel_rfl) (by kernel_rfl) (by exact fun _ _ _ h => h) ⟨by rfl, .inl ?_⟩ hSw ?_
     rotate_left
     ·(intro w hw; go_simp; first | done | with_reducible rfl)
     try simp only [Act.put, zTa, zTz, zTs]
     refine wpS_ready (rs := [10]) (by kernel_rfl) (by simp) (fun W2 hW2 => ?_)
     replace HO := HO.then hW2
     clear hW2 hSw
     refine AllReadyS.cons (by simp only [List.getElem?_toArray, List.getElem?_cons_succ, List.getElem?_cons_zero]; rfl) (fun K hK => ?_) AllReadyS.nil
     go_simp
     have H := HO.alloc (.cells #[.int .u32 0, .slice none 0 0] 61 (0, 0))
     refine hK.out _ _ ⟨H.cell 7 6 rfl rfl, H.cell 1 2 rfl rfl, H.at 11 rfl⟩ ?_
     clear hK K HO
     try simp only [Act.put, zTa, zTz, zTs]
     obtain ⟨gE, hE⟩ : ∃ gE, Hid (gE = W2.heap.size) := ⟨_, hid rfl⟩
     rw [← hE.out] at H ⊢
     refine wpS_ready (rs := [11]) (by kernel_rfl) (by simp) (fun W3 hW3 => ?_)
     have HO := H.then hW3
     clear hW3 H
     have k0 := HO.cells 0 rfl
     have m0 := HO.melt 0 rfl
     refine AllReadyS.cons (by simp only [List.getElem?_toArray, List.getElem?_cons_succ, List.getElem?_cons_zero]; rfl) (fun K hK => ?_) AllReadyS.nil
     go_simp
     have H := (HO.set 0 0 (.int .u32 0) rfl).set 0 1 (.slice none 0 0) rfl
     have hSw := (⟨H.cell 7 6 rfl rfl, H.cell 1 2 rfl rfl, H.at 11 rfl⟩ : _ ∧ _ ∧ Mp (.int .u32) keyU (fun _ v x => v = encKv x) _ km (kup (fun _ => none) 7 ⟨ty, gv, c⟩))
     refine hK.out _ _ hSw ?_
     clear hK K k0 m0 HO
     try simp only [Act.put, zTa, zTz, zTs]
     refine wpS_take hcl (i := 12) (v := ?_) (by simp only [List.getElem?_toArray, List.getElem?_cons_succ, List.getElem?_cons_zero]; rfl) (by kernel_rfl) (by kernel_rfl) (by kernel_rfl) (by exact fun _ _ _ h => h) ⟨by rfl, .inl ?_⟩ hSw ?_
     rotate_left
     ·(intro w hw; go_simp; first | done | with_reducible rfl)
     try simp only [Act.put, zTa, zTz, zTs]
     refine wpS_done (by kernel_rfl) (fun W8 hW8 => ?_) _
     have HO := H.then hW8
     clear H hW8 hE hSw hcl
     simp only [List.set_cons_zero, List.setIfInBounds_toArray, List.set_cons_succ] at HO
     (try simp only [zTz, zTs, zTa, zDs, zDz] at HO); (try have kk := HO.kk)
     go_wp2_with fail
     exact ⟨⟨k + 1, HK.out, by go_num, .inl ⟨by have := HK7.out; omega, by rw [hL1.out, hL2.out]; exact HO.sub (.cons _ (.cons _ (List.Sublist.refl _)))⟩⟩, by have := HK.out; simp [intOf]; omega⟩
   ·rw [hL3.out, hL2.out] at HO
    unfold fCells at HO
    have HK7 := hid (And.intro hk7 (And.intro hp hq))
    clear hk7 hp hq
    have hMM := HM.out.below HO.below
    have e0 := hMM.op k hkl
    have e1 := hMM.ty k hkl
    have e2 := hMM.res k hkl
    have e3 := hMM.args k hkl
    have zb := hMM.lt
    have hr7 := hid (HR.out.1 k hkl)
    have HK := hid hkl
    clear hMM
    have i2 : (k : Int) < l.length := by omega
    generalize l[k] = i at e0 e1 e2 e3 hr7
    generalize sv k = s at e3
    obtain ⟨sa, sl⟩ := s
    simp only at e3
    clear hkl
    (try simp only [zTz, zTs, zTa, zDs, zDz] at HO); (try have kk := HO.kk)
    go_wp2_with (first | ((first | (with_reducible refine sp_al HO ?_; intro g hg; rw [← hg.out]; clear hg) | (with_reducible first | refine sp_sk HO ?_ | refine sp_skc HO ?_) | (refine sp_wk HO rfl 43 _ _ rfl rfl rfl (by kernel_rfl) (by rfl) (by simp [Value.oneCell']) ?_)); clear HO; (try clear kk); intro W' HO; (try simp only [zTz, zTs, zTa] at HO); (try have kk := HO.kk)))
    obtain ⟨gI, rfl⟩ : ∃ q, q = g := ⟨_, rfl⟩
    (try clear kk)
    have hm1 := hmis i.res (fun e => by have := hr7.out.1 e; have := HK7.out.1; omega)
    have hcl : ∀ (W W2 : World), (W.cell? ⟨F, 6, none⟩ = some (.map (some km)) ∧ W.cell? ⟨gI, 2, none⟩ = some (.int .u32 i.res) ∧ Mp (.int .u32) keyU (fun _ v x => v = encKv x) W km (kup (fun _ => none) 7 ⟨ty, gv, c⟩)) → Below W.heap.size W W2 → (W2.cell? ⟨F, 6, none⟩ = some (.map (some km)) ∧ W2.cell? ⟨gI, 2, none⟩ = some (.int .u32 i.res) ∧ Mp (.int .u32) keyU (fun _ v x => v = encKv x) W2 km (kup (fun _ => none) 7 ⟨ty, gv, c⟩)) := fun _ _ h k => ⟨cell_last h.1 (block_lt_of_cell h.1) k, cell_last h.2.1 (block_lt_of_cell h.2.1) k, h.2.2.other (k.block km h.2.2.lt) (fun _ _ e => e)⟩
    replace HO := HO.drew
    have hSw := (⟨HO.cell 4 6 rfl rfl, HO.cell 0 2 rfl rfl, HO.at 8 rfl⟩ : _ ∧ _ ∧ Mp (.int .u32) keyU (fun _ v x => v = encKv x) _ km (kup (fun _ => none) 7 ⟨ty, gv, c⟩))
    refine wp_region_s (S := fun W => W.cell? ⟨F, 6, none⟩ = some (.map (some km)) ∧ W.cell? ⟨gI, 2, none⟩ = some (.int .u32 i.res) ∧ Mp (.int .u32) keyU (fun _ v x => v = encKv x) W km (kup (fun _ => none) 7 ⟨ty, gv, c⟩)) (by kernel_rfl) ?_
    refine wpS_take hcl (i := 0) (v := ?_) (by simp only [List.getElem?_toArray, List.getElem?_cons_succ, List.getElem?_cons_zero]; rfl) (by kernel_rfl) (by kernel_rfl) (by kernel_rfl) (by exact fun _ _ _ h => h) ⟨by rfl, .inl ?_⟩ hSw ?_
    rotate_left
    ·(intro w hw; go_simp; first | done | with_reducible rfl)
    try simp only [Act.put, zTa, zTz, zTs]
    refine wpS_take hcl (i := 1) (v := ?_) (by simp only [List.getElem?_toArray, List.getElem?_cons_succ, List.getElem?_cons_zero]; rfl) (by kernel_rfl) (by kernel_rfl) (by kernel_rfl) (by exact fun _ _ _ h => h) ⟨by rfl, .inl ?_⟩ hSw ?_
    rotate_left
    ·(intro w hw; go_simp; first | done | with_reducible rfl)
    try simp only [Act.put, zTa, zTz, zTs]
    refine wpS_take hcl (i := 2) (v := ?_) (by simp only [List.getElem?_toArray, List.getElem?_cons_succ, List.getElem?_cons_zero]; rfl) (by kernel_rfl) (by kernel_rfl) (by kernel_rfl) (by exact fun _ _ _ h => h) ⟨by rfl, .inl ?_⟩ hSw ?_
    rotate_left
    ·(intro w hw; go_simp; first | done | with_reducible rfl)
    try simp only [Act.put, zTa, zTz, zTs]
    refine wpS_take hcl (i := 3) (v := ?_) (by simp only [List.getElem?_toArray, List.getElem?_cons_succ, List.getElem?_cons_zero]; rfl) (by kernel_rfl) (by kernel_rfl) (by kernel_rfl) (by exact fun _ _ _ h => h) ⟨by rfl, .inl ?_⟩ hSw ?_
    rotate_left
    ·(intro w hw; have q1 := hw.1; go_simp; first | done | with_reducible rfl)
    try simp only [Act.put, zTa, zTz, zTs]
    refine wpS_take hcl (i := 4) (v := ?_) (by simp only [List.getElem?_toArray, List.getElem?_cons_succ, List.getElem?_cons_zero]; rfl) (by kernel_rfl) (by kernel_rfl) (by kernel_rfl) (by exact fun _ _ _ h => h) ⟨by rfl, .inl ?_⟩ hSw ?_
    rotate_left
    ·(intro w hw; go_simp; first | done | with_reducible rfl)
    try simp only [Act.put, zTa, zTz, zTs]
    refine wpS_take hcl (i := 5) (v := ?_) (by simp only [List.getElem?_toArray, List.getElem?_cons_succ, List.getElem?_cons_zero]; rfl) (by kernel_rfl) (by kernel_rfl) (by kernel_rfl) (by exact fun _ _ _ h => h) ⟨by rfl, .inl ?_⟩ hSw ?_
    rotate_left
    ·(intro w hw; have q1 := hw.2.1; go_simp; first | done | with_reducible rfl)
    try simp only [Act.put, zTa, zTz, zTs]
    refine wpS_take hcl (i := 6) (v := ?_) (by simp only [List.getElem?_toArray, List.getElem?_cons_succ, List.getElem?_cons_zero]; rfl) (by kernel_rfl) (by kernel_rfl) (by kernel_rfl) (by exact fun _ _ _ h => h) ⟨by rfl, .inl ?_⟩ hSw ?_
    rotate_left
    ·(intro w hw; have q1 := hm1 _ hw.2.2; go_simp; first | done | with_reducible rfl)
    try simp only [Act.put, zTa, zTz, zTs]
    refine wpS_take hcl (i := 7) (v := ?_) (by simp only [List.getElem?_toArray, List.getElem?_cons_succ, List.getElem?_cons_zero]; rfl) (by kernel_rfl) (by kernel_rfl) (by kernel_rfl) (by exact fun _ _ _ h => h) ⟨by rfl, .inl ?_⟩ hSw ?_
    rotate_left
    ·(intro w hw; go_simp; first | done | with_reducible rfl)
    try simp only [Act.put, zTa, zTz, zTs]
    refine wpS_take hcl (i := 8) (v := ?_) (by simp only [List.getElem?_toArray, List.getElem?_cons_succ, List.getElem?_cons_zero]; rfl) (by kernel_rfl) (by kernel_rfl) (by kernel_rfl) (by exact fun _ _ _ h => h) ⟨by rfl, .inl ?_⟩ hSw ?_
    rotate_left
    ·(intro w hw; go_simp; first | done | with_reducible rfl)
    try simp only [Act.put, zTa, zTz, zTs]
    refine wpS_take hcl (i := 9) (v := ?_) (by simp only [List.getElem?_toArray, List.getElem?_cons_succ, List.getElem?_cons_zero]; rfl) (by kernel_rfl) (by kernel_rfl) (by kernel_rfl) (by exact fun _ _ _ h => h) ⟨by rfl, .inl ?_⟩ hSw ?_
    rotate_left
    ·(intro w hw; go_simp; first | done | with_reducible rfl)
    try simp only [Act.put, zTa, zTz, zTs]
    refine wpS_ready (rs := [10]) (by kernel_rfl) (by simp) (fun W2 hW2 => ?_)
    replace HO := HO.then hW2
    clear hW2 hSw
    refine AllReadyS.cons (by simp only [List.getElem?_toArray, List.getElem?_cons_succ, List.getElem?_cons_zero]; rfl) (fun K hK => ?_) AllReadyS.nil
    go_simp
    have H := HO.alloc (.cells #[.int .u32 0, .slice none 0 0] 61 (0, 0))
    refine hK.out _ _ ⟨H.cell 5 6 rfl rfl, H.cell 1 2 rfl rfl, H.at 9 rfl⟩ ?_
    clear hK K HO
    try simp only [Act.put, zTa, zTz, zTs]
    obtain ⟨gE, hE⟩ : ∃ gE, Hid (gE = W2.heap.size) := ⟨_, hid rfl⟩
    rw [← hE.out] at H ⊢
    refine wpS_ready (rs := [11]) (by kernel_rfl) (by simp) (fun W3 hW3 => ?_)
    have HO := H.then hW3
    clear hW3 H
    have k0 := HO.cells 0 rfl
    have m0 := HO.melt 0 rfl
    refine AllReadyS.cons (by simp only [List.getElem?_toArray, List.getElem?_cons_succ, List.getElem?_cons_zero]; rfl) (fun K hK => ?_) AllReadyS.nil
    go_simp
    have H := (HO.set 0 0 (.int .u32 0) rfl).set 0 1 (.slice none 0 0) rfl
    have hSw := (⟨H.cell 5 6 rfl rfl, H.cell 1 2 rfl rfl, H.at 9 rfl⟩ : _ ∧ _ ∧ Mp (.int .u32) keyU (fun _ v x => v = encKv x) _ km (kup (fun _ => none) 7 ⟨ty, gv, c⟩))
    refine hK.out _ _ hSw ?_
    clear hK K k0 m0 HO
    try simp only [Act.put, zTa, zTz, zTs]
    refine wpS_take hcl (i := 12) (v := ?_) (by simp only [List.getElem?_toArray, List.getElem?_cons_succ, List.getElem?_cons_zero]; rfl) (by kernel_rfl) (by kernel_rfl) (by kernel_rfl) (by exact fun _ _ _ h => h) ⟨by rfl, .inl ?_⟩ hSw ?_
    rotate_left
    ·(intro w hw; go_simp; first | done | with_reducible rfl)
    try simp only [Act.put, zTa, zTz, zTs]
    refine wpS_done (by kernel_rfl) (fun W8 hW8 => ?_) _
    have HO := H.then hW8
    clear H hW8 hE hSw hcl
    simp only [List.set_cons_zero, List.setIfInBounds_toArray, List.set_cons_succ] at HO
    (try simp only [zTz, zTs, zTa, zDs, zDz] at HO); (try have kk := HO.kk)
    go_wp2_with fail
    exact ⟨⟨k + 1, HK.out, by go_num, .inr ⟨by have := HK7.out.1; omega, am, cm, p, D, HK7.out.2.1, HK7.out.2.2, by rw [hL3.out, hL2.out]; exact HO.sub (.cons _ (.cons _ (List.Sublist.refl _)))⟩⟩, by have := HK.out; simp [intOf]; omega⟩
  ·obtain rfl : k = l.length := by omega
   have i2 : ¬ ((l.length : Nat) : Int) < l.length := by omega
   rcases hst with ⟨h7, -⟩ | ⟨-, am, cm, p, D, hp, hq, HO⟩
   ·omega
   ·rw [hL3.out, hL2.out] at HO
    unfold fCells at HO
    have hm1 : Hid ((madeL there ty r z).length ≤ 1 ∧ p.length = (madeL there ty r z).length) := hid ⟨by cases there <;> simp [madeL], by rw [← hp, List.length_map]⟩
    obtain ⟨nm, hnm⟩ : ∃ nm, Hid ((madeL there ty r z).length = nm) := ⟨_, hid rfl⟩
    rw [hnm.out] at HO hm1
    have HP := hid (And.intro hp hq)
    clear hp hq hmis hkl hk
    (try simp only [zTz, zTs, zTa, zDs, zDz] at HO); (try have kk := HO.kk)
    go_wp2_with (first | ((first | (with_reducible refine sp_al HO ?_; intro g hg; rw [← hg.out]; clear hg) | (with_reducible first | refine sp_sk HO ?_ | refine sp_skc HO ?_) | (refine sp_wk HO rfl 36 _ _ rfl rfl rfl (by kernel_rfl) (by rfl) (by simp [Value.oneCell']) ?_) | (refine sp_wk HO rfl 28 _ _ rfl rfl rfl (by kernel_rfl) (by rfl) (by simp [Value.oneCell']) ?_) | (refine sp_wk HO rfl 76 _ _ rfl rfl rfl (by kernel_rfl) (by rfl) (by simp [Value.oneCell']) ?_)); clear HO; (try clear kk); intro W' HO; (try simp only [zTz, zTs, zTa] at HO); (try have kk := HO.kk)) | (go_at_call 19; (with_reducible refine (cP _ HO.below).mono ?_); rintro e w1 ⟨rfl, hn1⟩; replace HO := HO.then hn1; clear hn1; (try clear kk); (try simp only [zTz, zTs, zTa, zDs, zDz] at HO); (try have kk := HO.kk)))
    (try clear kk)
    rename_i gPt V8 gS14 V9 V10 V11 V12 K2 a2
    obtain ⟨gO, rfl⟩ : ∃ q, q = g := ⟨_, rfl⟩
    have hbn : ((bound : Int) + nm) % 4294967296 = (bound : Int) + nm := by have := hm1.out.1; omega
    rw [hbn] at HO ⊢
    clear hbn
    obtain ⟨L4, hL4⟩ : ∃ L4 : List As, Hid (L4 = [cls gS14 #[.int .i64 0, .int .i64 0] 36, cls gPt #[.int .i64 (ps 0), .int .i64 (ps 1), .int .i64 (ps 2), .int .i64 (ps 3), .int .i64 (ps 4), .int .i64 (ps 5), .int .i64 (ps 6), .int .i64 (ps 7), .int .i64 (ps 8), .int .i64 (ps 9), .int .i64 (ps 10), .int .i64 (ps 11), .int .i64 (ps 12), .int .i64 (ps 13), .int .i64 (ps 14), .int .i64 5, .int .i64 (ps 16), .int .i64 (ps 17), .int .i64 (ps 18), .int .i64 (ps 19)] 76, rw_ w.heap.size 43 4 (.slice am nm cm) nm (flatI p), cls gm #[.slice am nm cm] 26, cls F #[.int .u32 gen, .int .u32 bound, .slice (some ⟨b, o, none⟩) l.length cap, .pointer (some ⟨P, 0, none⟩), .pointer (some ⟨T, 0, none⟩), .slice (some ⟨sb, 0, none⟩) 1 sc, .map (some km)] 66, deep lo hi (fun lo W => PnIn lo P T tab cv [x0, x1] W), deep l2 h2 (w1P gv z), mpA (.int .u32) keyU encU gT (kup (fun _ => none) 7 r), mpA (.int .u32) keyU encKv km (kup (fun _ => none) 7 ⟨ty, gv, c⟩), cls gS5 #[.int .i64 0, .int .i64 0] 36, rw_ V2.heap.size 75 2 (.slice (some ⟨sb, 0, none⟩) 1 sc) 1 [.int .i64 6, .int .i64 9], cls gSp #[.int .i64 0, .int .i64 0] 36, cls gRm #[.int .u32 0, .int .u32 0, .slice none 0 0] 28, cls gM #[.int .u32 gen, .int .u32 bound, .slice (some ⟨b, o, none⟩) l.length cap] 28]) := ⟨_, hid rfl⟩
    replace HO := HO.row w.heap.size 43 4
    replace HO := HO.pull 6 rfl
    simp only [List.eraseIdx_cons_zero, List.eraseIdx_cons_succ] at HO
    replace HO := HO.pull 5 rfl
    simp only [List.eraseIdx_cons_zero, List.eraseIdx_cons_succ] at HO
    replace HO := HO.pull 5 rfl
    simp only [List.eraseIdx_cons_zero, List.eraseIdx_cons_succ] at HO
    replace HO := HO.pull 5 rfl
    simp only [List.eraseIdx_cons_zero, List.eraseIdx_cons_succ] at HO
    replace HO := HO.pull 5 rfl
    simp only [List.eraseIdx_cons_zero, List.eraseIdx_cons_succ] at HO
    replace HO := HO.pull 6 rfl
    simp only [List.eraseIdx_cons_zero, List.eraseIdx_cons_succ] at HO
    replace HO := HO.pull 6 rfl
    simp only [List.eraseIdx_cons_zero, List.eraseIdx_cons_succ] at HO
    obtain ⟨LM, hLM⟩ : ∃ LM, Hid (LM = madeL there ty r z) := ⟨_, hid rfl⟩
    have hLl : Hid (LM.length ≤ 1) := hid (by rw [hLM.out, hnm.out]; exact hm1.out.1)
    have H0 : Hid (OutSt w gO gen (bound + nm) l LM r p L4 0 W') := hid ⟨p, [], D, .slice none 0 0, fun x h => (by cases h), fun x h => h, rfl, by rw [hL4.out]; exact HO⟩
    clear HO
    go_loopw [80] (fun x80 wr => ∃ k : Nat, k ≤ l.length ∧ x80 = .int .i64 k ∧ OutSt w gO gen (bound + nm) l LM r p L4 k wr) (fun x _ => l.length - (intOf x).toNat)
    case atStart => exact ⟨0, by omega, rfl, H0.out⟩
    case round =>
     obtain ⟨k, hk, rfl, hst⟩ := hrel
     clear H0
     obtain ⟨q, po, D2, vO, hs1, hs2, hs3, HO⟩ := hst.at_
     clear hst
     obtain ⟨aO, cO, rfl, -⟩ := HO.slice 0 rfl
     have HS := hid (And.intro hs1 (And.intro hs2 hs3))
     clear hs1 hs2 hs3
     rw [hL4.out] at HO
     have hpl : po.length ≤ 4000 := by
      have h1 := congrArg List.length HS.out.2.2
      rw [List.length_map] at h1
      have h2 := outL_len l LM r k
      have h3 : k * (1 + LM.length) ≤ k * 2 := Nat.mul_le_mul_left _ (by have := hLl.out; omega)
      omega
     by_cases hkl : k < l.length
     ·have hMM := HM.out.below HO.below
      have e0 := hMM.op k hkl
      have e1 := hMM.ty k hkl
      have e2 := hMM.res k hkl
      have e3 := hMM.args k hkl
      have zb := hMM.lt
      have hgd := hid (show l.getD k noIn = l[k] from getD_at l hkl)
      have hr7 := hid (And.intro (HR.out.1 k hkl) (And.intro (HR.out.2 k hkl) (And.intro (hnil k hkl) (And.intro (hags k hkl) (HM.out.sl k hkl)))))
      have HK := hid hkl
      clear hMM
      have i2 : (k : Int) < l.length := by omega
      generalize l[k] = i at e0 e1 e2 e3 hr7 hgd
      generalize sv k = s at e3 hr7
      obtain ⟨sa, sl⟩ := s
      simp only at e3
      clear hkl hk
      by_cases h5 : k = 5
      ·skip
       have i5 : ((k : Int) == 5) = true := by rw [h5]; rfl
       have H5 := hid h5
       have H7 := hid (show k ≠ 7 by omega)
       clear h5
       have hpos : 0 < po.length := by
        have h1 := congrArg List.length HS.out.2.2
        rw [List.length_map, H5.out] at h1
        simp [outL] at h1
        omega
       cases there with
       | true =>
        obtain ⟨rfl, rfl⟩ := HP.out.2 rfl
        have hz : Value.slice none nm 0 = Value.slice none 0 0 := by rw [← hnm.out]; rfl
        have h4 := hL4.out
        rw [hz] at HO h4
        clear hL4
        have hL4 := hid h4
        clear h4 hz
        obtain ⟨gq, rfl, -, -, hnc, -⟩ := HO.slice2 0 rfl hpos
        have hnc2 : (po.length : Int) ≤ cO := by omega
        have hnc3 : ¬ (cO < po.length) := by omega
        (try simp only [zTz, zTs, zTa, zDs, zDz] at HO); (try have kk := HO.kk)
        go_upto_region 21 with (first | ((first | (with_reducible refine sp_al HO ?_; intro g hg; rw [← hg.out]; clear hg) | (with_reducible first | refine sp_sk HO ?_ | refine sp_skc HO ?_) | (refine sp_wk HO rfl 43 _ _ rfl rfl rfl (by kernel_rfl) (by rfl) (by simp [Value.oneCell']) ?_)); clear HO; (try clear kk); intro W' HO; (try simp only [zTz, zTs, zTa] at HO); (try have kk := HO.kk)))
        obtain ⟨gI, rfl⟩ : ∃ q, q = g := ⟨_, rfl⟩
        (try clear kk)
        have hmp : po.map Prod.fst = outL l LM r k ++ (if k = 5 then LM else []) := by rw [HS.out.2.2, if_pos H5.out, hLM.out]; simp [madeL]
        have hlk : (Instr.lookup 72 (.map (some gT)) (.int .u32 i.res) true).run Tryz.prog W' = .ok (.tuple #[.int .u32 0, .bool false]) W' := (HO.at 11 rfl : Mp _ _ _ _ _ _).miss keysU Tryz.underlying72 Tryz.underlying23 (k := i.res) (if_neg (fun e => H7.out (hr7.out.1.1 e))) (zeroTo W') true
        have cNm := fun (W : World) => fnamed_own F i.op (.int .u32 i.ty) (.int .u32 i.res) (.slice sa i.args.length sl) hr7.out.2.1.1 hr7.out.2.1.2.1 hr7.out.2.1.2.2 W
        by_cases ha : i.args = []
        ·have hsa := hr7.out.2.2.1 ha
         injection hsa with hsa hsl
         subst hsa hsl
         rw [ha, List.length_nil] at e3 HO cNm
         have HA := hid ha
         clear ha
         have cCl := fun (W : World) => clonea_nil W
         (try simp only [zTz, zTs, zTa, zDs, zDz] at HO); (try have kk := HO.kk)
         go_wp2_with (first | ((first | (with_reducible refine sp_al HO ?_; intro g hg; rw [← hg.out]; clear hg) | (with_reducible first | refine sp_sk HO ?_ | refine sp_skc HO ?_) | (refine sp_wk HO rfl 43 _ _ rfl rfl rfl (by kernel_rfl) (by rfl) (by simp [Value.oneCell']) ?_)); clear HO; (try clear kk); intro W' HO; (try simp only [zTz, zTs, zTa] at HO); (try have kk := HO.kk)) | (go_at_call 20; (with_reducible refine (cNm _).mono ?_); rintro e w1 ⟨rfl, hn1⟩; replace HO := HO.then hn1; clear hn1; (try clear kk); (try simp only [zTz, zTs, zTa, zDs, zDz] at HO); (try have kk := HO.kk)) | (go_at_call 21; (with_reducible refine (cCl _).mono ?_); rintro e w1 ⟨rfl, rfl⟩))
         refine wp_loop_rounds 1 ?_
         rw [rounds_succ]
         go_wp2_with (first | ((first | (with_reducible refine sp_al HO ?_; intro g hg; rw [← hg.out]; clear hg) | (with_reducible first | refine sp_sk HO ?_ | refine sp_skc HO ?_)); clear HO; (try clear kk); intro W' HO; (try simp only [zTz, zTs, zTa] at HO); (try have kk := HO.kk)) | ((with_reducible refine at_append ?_); refine sp_append HO el_inst 2 0 rfl rfl rfl _ _ rfl rfl rfl rfl (by simp [Value.oneCell']) (by omega) (by omega) (Nat.le_refl _) ?_; clear HO; (try clear kk); intro r0 d0 W' HO; (try simp only [zTz, zTs, zTa] at HO); (try simp only [zTz, zTs, zTa, zDs, zDz] at HO); (try have kk := HO.kk)))
         have hfin : OutSt w gO gen (bound + nm) l LM r p L4 (k + 1) W' := OutSt.push (i := i) (xs := flatI po ++ [.int .u16 i.op, .int .u32 i.ty, .int .u32 i.res, .slice none 0 0]) (subI r i, none, 0) rfl hgd.out H7.out hmp HS.out.1 HS.out.2.1 rfl (by simp [subI, HA.out]) (by
          rw [hL4.out]
          exact (args_no (HO.sub (.cons _ (.cons _ (List.Sublist.refl _))) |>.perm (.swap _ _ _)) (by simp [subI, HA.out])).perm (.swap _ _ _))
         clear HO
         exact ⟨⟨k + 1, HK.out, by go_num, hfin⟩, by have := HK.out; simp [intOf]; omega⟩
        ·have h0 : 0 < i.args.length := List.length_pos_iff.2 ha
         obtain ⟨ab, ao, esa, -, -⟩ := hr7.out.2.2.2.2.at_ h0
         subst esa
         have cCl := fun (W : World) (hb : Below w.heap.size w W) => clonea_own ab ao sl i.args h0 (by have := hr7.out.2.2.2.1; omega) W (hr7.out.2.2.2.2.below AgAt.lasts hb)
         have hn1 : i.args.length ≤ 1000 := hr7.out.2.2.2.1
         clear ha
         (try simp only [zTz, zTs, zTa, zDs, zDz] at HO); (try have kk := HO.kk)
         go_wp2_with (first | ((first | (with_reducible refine sp_al HO ?_; intro g hg; rw [← hg.out]; clear hg) | (with_reducible first | refine sp_sk HO ?_ | refine sp_skc HO ?_) | (refine sp_wk HO rfl 43 _ _ rfl rfl rfl (by kernel_rfl) (by rfl) (by simp [Value.oneCell']) ?_)); clear HO; (try clear kk); intro W' HO; (try simp only [zTz, zTs, zTa] at HO); (try have kk := HO.kk)) | (go_at_call 20; (with_reducible refine (cNm _).mono ?_); rintro e w1 ⟨rfl, hn1⟩; replace HO := HO.then hn1; clear hn1; (try clear kk); (try simp only [zTz, zTs, zTa, zDs, zDz] at HO); (try have kk := HO.kk)) | (go_at_call 21; (with_reducible refine (cCl _ HO.below).mono ?_); rintro e w1 ⟨gA, cA, rfl, hq2⟩; replace HO := HO.app hq2; clear hq2; (try simp only [List.cons_append, List.nil_append] at HO); (try clear kk); (try simp only [zTz, zTs, zTa, zDs, zDz] at HO); (try have kk := HO.kk)))
         obtain ⟨LR, hLR⟩ : ∃ LR : List As, Hid (LR = cls gI #[.int .u16 i.op, .int .u32 i.ty, .int .u32 i.res, .slice (some ⟨gA, 0, none⟩) i.args.length cA] 43 :: rw_ w.heap.size 43 4 (.slice (some ⟨gq,0,none⟩) po.length cO) (po).length (flatI (po)) :: argsA D2 q :: cls gO #[.int .u32 gen, .int .u32 (bound + nm : Nat), (.slice (some ⟨gq,0,none⟩) po.length cO)] 28 :: L4) := ⟨_, hid rfl⟩
         have H1 : Hid (∃ B, Own noX w (rw_ B 45 3 (.slice (some ⟨gA, 0, none⟩) i.args.length cA) i.args.length ((mixA r i.args 0).flatMap agCells) :: LR) W') := hid ⟨_, by rw [hLR.out, hL4.out, mix_zero]; exact HO⟩
         clear HO
         (try clear kk)
         go_loopw [115] (fun x115 wr => ∃ j B : Nat, j ≤ i.args.length ∧ x115 = .int .i64 j ∧ Own noX w (rw_ B 45 3 (.slice (some ⟨gA, 0, none⟩) i.args.length cA) i.args.length ((mixA r i.args j).flatMap agCells) :: LR) wr) (fun x _ => i.args.length - (intOf x).toNat)
         case atStart => exact ⟨0, H1.out.choose, by omega, rfl, H1.out.choose_spec⟩
         case round =>
          obtain ⟨j, B, hj, rfl, HO⟩ := hrel
          clear H1
          rw [hLR.out, hL4.out] at HO
          by_cases hjl : j < i.args.length
          ·have j2 : (j : Int) < i.args.length := by omega
           have hm := mix_cells (r := r) hjl
           have a0 := HO.rowcell 0 (j * 3) rfl hm.1
           have a1 := HO.rowcell 0 (j * 3 + 1) rfl hm.2.1
           have a2 := HO.rowcell 0 (j * 3 + 2) rfl hm.2.2
           clear hm
           have HJ := hid hjl
           have HC2 := hid (mix_cells (r := r) hjl).2.1
           have htn := hid (fun hk hn => mix_turn (r := r) hjl hk hn)
           have hkp := hid (fun hk => mix_keep (r := r) hjl hk)
           generalize i.args[j] = a at a0 a1 a2 htn hkp HC2
           clear hjl hj
           (try simp only [zTz, zTs, zTa, zDs, zDz] at HO); (try have kk := HO.kk)
           go_upto_region 27 with (first | ((first | (with_reducible refine sp_al HO ?_; intro g hg; rw [← hg.out]; clear hg) | (with_reducible first | refine sp_sk HO ?_ | refine sp_skc HO ?_) | (refine sp_wk HO rfl 45 _ _ rfl rfl rfl (by kernel_rfl) (by rfl) (by simp [Value.oneCell']) ?_)); clear HO; (try clear kk); intro W' HO; (try simp only [zTz, zTs, zTa] at HO); (try have kk := HO.kk)))
           obtain ⟨gB, rfl⟩ : ∃ q, q = g := ⟨_, rfl⟩
           (try clear kk)
           by_cases hn7 : a.n = 7
           ·have hlk : (Instr.lookup 72 (.map (some gT)) (.int .u32 a.n) true).run Tryz.prog W' = .ok (.tuple #[.int .u32 r, .bool true]) W' := by
             obtain ⟨v, hv, hq⟩ := (HO.at 13 rfl : Mp _ _ _ _ _ _).hit keysU Tryz.underlying72 Tryz.underlying23 (k := a.n) (x := r) (if_pos hn7)
             have hq := hq true
             rw [hv] at hq
             exact hq
            by_cases hk1 : a.kind = 1
            ·have hk2 : ((a.kind : Int) == 1) = true := by rw [hk1]; rfl
             have ht := hid (htn.out hk1 hn7)
             clear hn7 hk1 htn hkp a0 a1 a2
             have a1 := HO.rowcell 1 (j * 3 + 1) rfl HC2.out
             have fz := World.ownsRow.frozenAt (HO.at 1 rfl : W'.ownsRow B _ 3 (.slice (some ⟨gA, 0, none⟩) _ cA) _ ((mixA r i.args j).flatMap agCells)) (j * 3 + 1)
             (try simp only [zTz, zTs, zTa, zDs, zDz] at HO); (try have kk := HO.kk)
             go_wp2_with (first | ((first | refine sp_rowset 1 HO rfl ?_ | refine sp_rowsetc 1 HO rfl ?_); intro W9 HO9; clear HO; (try clear kk); have HO := HO9; clear HO9; (try simp only [List.set_cons_succ, List.set_cons_zero] at HO); (try simp only [zTz, zTs, zTa, zDs, zDz] at HO); (try have kk := HO.kk)))
             rw [ht.out] at HO
             exact ⟨⟨j + 1, B, HJ.out, by go_num, by rw [hLR.out, hL4.out]; exact HO.drop 1⟩, by have := HJ.out; simp [intOf]; omega⟩
            ·have hk2 : ((a.kind : Int) == 1) = false := by rw [beq_eq_false_iff_ne]; omega
             have ht := hid (hkp.out (fun e => hk1 e.1))
             clear hn7 hk1 htn hkp
             (try simp only [zTz, zTs, zTa, zDs, zDz] at HO); (try have kk := HO.kk)
             go_wp2_with fail
             exact ⟨⟨j + 1, B, HJ.out, by go_num, by rw [hLR.out, hL4.out, ht.out]; exact HO.drop 1⟩, by have := HJ.out; simp [intOf]; omega⟩
           ·have hlk : (Instr.lookup 72 (.map (some gT)) (.int .u32 a.n) true).run Tryz.prog W' = .ok (.tuple #[.int .u32 0, .bool false]) W' := (HO.at 13 rfl : Mp _ _ _ _ _ _).miss keysU Tryz.underlying72 Tryz.underlying23 (k := a.n) (if_neg hn7) (zeroTo W') true
            have ht := hid (hkp.out (fun e => hn7 e.2))
            clear hn7 htn hkp
            (try simp only [zTz, zTs, zTa, zDs, zDz] at HO); (try have kk := HO.kk)
            go_wp2_with fail
            exact ⟨⟨j + 1, B, HJ.out, by go_num, by rw [hLR.out, hL4.out, ht.out]; exact HO.drop 1⟩, by have := HJ.out; simp [intOf]; omega⟩
          ·obtain rfl : j = i.args.length := by omega
           have j2 : ¬ ((i.args.length : Nat) : Int) < i.args.length := by omega
           clear hjl hj
           (try simp only [zTz, zTs, zTa, zDs, zDz] at HO); (try have kk := HO.kk)
           go_wp2_with (first | ((first | (with_reducible refine sp_al HO ?_; intro g hg; rw [← hg.out]; clear hg) | (with_reducible first | refine sp_sk HO ?_ | refine sp_skc HO ?_)); clear HO; (try clear kk); intro W' HO; (try simp only [zTz, zTs, zTa] at HO); (try have kk := HO.kk)) | ((with_reducible refine at_append ?_); refine sp_append HO el_inst 3 0 rfl rfl rfl _ _ rfl rfl rfl rfl (by simp [Value.oneCell']) (by omega) (by omega) (Nat.le_refl _) ?_; clear HO; (try clear kk); intro r0 d0 W' HO; (try simp only [zTz, zTs, zTa] at HO); (try simp only [zTz, zTs, zTa, zDs, zDz] at HO); (try have kk := HO.kk)))
           have hlm : (subI r i).args.length = i.args.length := List.length_map ..
           have hfin : OutSt w gO gen (bound + nm) l LM r p L4 (k + 1) W' := OutSt.push (i := i) (xs := flatI (po) ++ [.int .u16 i.op, .int .u32 i.ty, .int .u32 i.res, .slice (some ⟨gA, 0, none⟩) i.args.length cA]) (subI r i, some ⟨gA, 0, none⟩, cA) rfl hgd.out H7.out hmp HS.out.1 HS.out.2.1 rfl (by rw [hlm]; rfl) (by
            rw [hL4.out]
            replace HO := HO.pull 3 rfl
            simp only [List.eraseIdx_cons_zero, List.eraseIdx_cons_succ] at HO
            replace HO := HO.pull 3 rfl
            simp only [List.eraseIdx_cons_zero, List.eraseIdx_cons_succ] at HO
            replace HO := HO.pull 2 rfl
            simp only [List.eraseIdx_cons_zero, List.eraseIdx_cons_succ] at HO
            replace HO := HO.pull 4 rfl
            simp only [List.eraseIdx_cons_zero, List.eraseIdx_cons_succ] at HO
            replace HO := HO.pull 4 rfl
            simp only [List.eraseIdx_cons_zero, List.eraseIdx_cons_succ] at HO
            rw [mix_all, show i.args.map (subA r) = (subI r i).args from rfl, ← hlm] at HO
            have HN := (args_row (i := subI r i) HO).sub (.cons_cons _ (.cons _ (.cons _ (List.Sublist.refl _))))
            rw [hlm] at HN
            exact HN.perm (.swap _ _ _))
           clear HO
           exact ⟨⟨k + 1, HK.out, by go_num, hfin⟩, by have := HK.out; simp [intOf]; omega⟩
       | false =>
        have hn1 : nm = 1 := by rw [← hnm.out]; rfl
        obtain ⟨gX, rfl, -, -, -, -⟩ := HO.slice2 5 rfl (by omega)
        have hp1 : p.length = 1 := hm1.out.2.trans hn1
        have hz : Value.slice (some ⟨gX, 0, none⟩) nm cm = Value.slice (some ⟨gX, 0, none⟩) 1 cm := by rw [hn1]
        have h4 := hL4.out
        rw [hz] at HO h4
        clear hL4
        have hL4 := hid h4
        clear h4 hz hn1
        have hx1 : ∀ u ∈ flatI p, u.oneCell' = true := fun u hu => by
         obtain ⟨a, -, ha⟩ := List.mem_flatMap.1 hu
         simp only [List.mem_cons, List.not_mem_nil, or_false] at ha
         rcases ha with rfl | rfl | rfl | rfl <;> simp [Value.oneCell']
        (try simp only [zTz, zTs, zTa, zDs, zDz] at HO); (try have kk := HO.kk)
        go_upto_region 21 with (first | ((first | (with_reducible refine sp_al HO ?_; intro g hg; rw [← hg.out]; clear hg) | (with_reducible first | refine sp_sk HO ?_ | refine sp_skc HO ?_) | (refine sp_wk HO rfl 43 _ _ rfl rfl rfl (by kernel_rfl) (by rfl) (by simp [Value.oneCell']) ?_)); clear HO; (try clear kk); intro W' HO; (try simp only [zTz, zTs, zTa] at HO); (try have kk := HO.kk)) | ((with_reducible refine at_append ?_); refine sp_src HO el_inst 1 rfl gX 0 1 cm (flatI p) rfl _ _ rfl rfl rfl (by rw [flatI_len, hp1]) (fun j u hu => by rw [Nat.zero_add]; exact HO.rowcell 6 j rfl hu) hx1 (by omega) (by omega) (by omega) (Nat.le_refl _) ?_; clear HO; (try clear kk); intro g0 c0 W' HO; (try simp only [zTz, zTs, zTa] at HO); (try simp only [zTz, zTs, zTa, zDs, zDz] at HO); (try have kk := HO.kk)))
        obtain ⟨gI, rfl⟩ : ∃ q, q = g := ⟨_, rfl⟩
        (try clear kk)
        have e1' : flatI po ++ flatI p = flatI (po ++ p) := by simp [flatI]
        have e2' : po.length + 1 = (po ++ p).length := by rw [List.length_append, hp1]
        rw [e1', e2'] at HO
        have hmp : (po ++ p).map Prod.fst = outL l LM r k ++ (if k = 5 then LM else []) := by rw [List.map_append, HS.out.2.2, HP.out.1, if_pos H5.out, hLM.out]
        have hpq : ∀ x ∈ po ++ p, x ∈ q := fun x hx => (List.mem_append.1 hx).elim (HS.out.1 x) (HS.out.2.1 x)
        have hpl2 : (po ++ p).length ≤ 4001 := by rw [← e2']; omega
        have hpq2 := hid hpq
        have hmp2 := hid hmp
        clear e1' e2' hpq hmp hpos hx1 hp1
        generalize po ++ p = po2 at HO hpl2 hpq2 hmp2
        have hlk : (Instr.lookup 72 (.map (some gT)) (.int .u32 i.res) true).run Tryz.prog W' = .ok (.tuple #[.int .u32 0, .bool false]) W' := (HO.at 11 rfl : Mp _ _ _ _ _ _).miss keysU Tryz.underlying72 Tryz.underlying23 (k := i.res) (if_neg (fun e => H7.out (hr7.out.1.1 e))) (zeroTo W') true
        have cNm := fun (W : World) => fnamed_own F i.op (.int .u32 i.ty) (.int .u32 i.res) (.slice sa i.args.length sl) hr7.out.2.1.1 hr7.out.2.1.2.1 hr7.out.2.1.2.2 W
        by_cases ha : i.args = []
        ·have hsa := hr7.out.2.2.1 ha
         injection hsa with hsa hsl
         subst hsa hsl
         rw [ha, List.length_nil] at e3 HO cNm
         have HA := hid ha
         clear ha
         have cCl := fun (W : World) => clonea_nil W
         (try simp only [zTz, zTs, zTa, zDs, zDz] at HO); (try have kk := HO.kk)
         go_wp2_with (first | ((first | (with_reducible refine sp_al HO ?_; intro g hg; rw [← hg.out]; clear hg) | (with_reducible first | refine sp_sk HO ?_ | refine sp_skc HO ?_) | (refine sp_wk HO rfl 43 _ _ rfl rfl rfl (by kernel_rfl) (by rfl) (by simp [Value.oneCell']) ?_)); clear HO; (try clear kk); intro W' HO; (try simp only [zTz, zTs, zTa] at HO); (try have kk := HO.kk)) | (go_at_call 20; (with_reducible refine (cNm _).mono ?_); rintro e w1 ⟨rfl, hn1⟩; replace HO := HO.then hn1; clear hn1; (try clear kk); (try simp only [zTz, zTs, zTa, zDs, zDz] at HO); (try have kk := HO.kk)) | (go_at_call 21; (with_reducible refine (cCl _).mono ?_); rintro e w1 ⟨rfl, rfl⟩))
         refine wp_loop_rounds 1 ?_
         rw [rounds_succ]
         go_wp2_with (first | ((first | (with_reducible refine sp_al HO ?_; intro g hg; rw [← hg.out]; clear hg) | (with_reducible first | refine sp_sk HO ?_ | refine sp_skc HO ?_)); clear HO; (try clear kk); intro W' HO; (try simp only [zTz, zTs, zTa] at HO); (try have kk := HO.kk)) | ((with_reducible refine at_append ?_); refine sp_append HO el_inst 2 0 rfl rfl rfl _ _ rfl rfl rfl rfl (by simp [Value.oneCell']) (by omega) (by omega) (Nat.le_refl _) ?_; clear HO; (try clear kk); intro r0 d0 W' HO; (try simp only [zTz, zTs, zTa] at HO); (try simp only [zTz, zTs, zTa, zDs, zDz] at HO); (try have kk := HO.kk)))
         have hfin : OutSt w gO gen (bound + nm) l LM r p L4 (k + 1) W' := OutSt.push (i := i) (xs := flatI po2 ++ [.int .u16 i.op, .int .u32 i.ty, .int .u32 i.res, .slice none 0 0]) (subI r i, none, 0) rfl hgd.out H7.out hmp2.out hpq2.out HS.out.2.1 rfl (by simp [subI, HA.out]) (by
          rw [hL4.out]
          exact (args_no (HO.sub (.cons _ (.cons _ (List.Sublist.refl _))) |>.perm (.swap _ _ _)) (by simp [subI, HA.out])).perm (.swap _ _ _))
         clear HO
         exact ⟨⟨k + 1, HK.out, by go_num, hfin⟩, by have := HK.out; simp [intOf]; omega⟩
        ·have h0 : 0 < i.args.length := List.length_pos_iff.2 ha
         obtain ⟨ab, ao, esa, -, -⟩ := hr7.out.2.2.2.2.at_ h0
         subst esa
         have cCl := fun (W : World) (hb : Below w.heap.size w W) => clonea_own ab ao sl i.args h0 (by have := hr7.out.2.2.2.1; omega) W (hr7.out.2.2.2.2.below AgAt.lasts hb)
         have hn1 : i.args.length ≤ 1000 := hr7.out.2.2.2.1
         clear ha
         (try simp only [zTz, zTs, zTa, zDs, zDz] at HO); (try have kk := HO.kk)
         go_wp2_with (first | ((first | (with_reducible refine sp_al HO ?_; intro g hg; rw [← hg.out]; clear hg) | (with_reducible first | refine sp_sk HO ?_ | refine sp_skc HO ?_) | (refine sp_wk HO rfl 43 _ _ rfl rfl rfl (by kernel_rfl) (by rfl) (by simp [Value.oneCell']) ?_)); clear HO; (try clear kk); intro W' HO; (try simp only [zTz, zTs, zTa] at HO); (try have kk := HO.kk)) | (go_at_call 20; (with_reducible refine (cNm _).mono ?_); rintro e w1 ⟨rfl, hn1⟩; replace HO := HO.then hn1; clear hn1; (try clear kk); (try simp only [zTz, zTs, zTa, zDs, zDz] at HO); (try have kk := HO.kk)) | (go_at_call 21; (with_reducible refine (cCl _ HO.below).mono ?_); rintro e w1 ⟨gA, cA, rfl, hq2⟩; replace HO := HO.app hq2; clear hq2; (try simp only [List.cons_append, List.nil_append] at HO); (try clear kk); (try simp only [zTz, zTs, zTa, zDs, zDz] at HO); (try have kk := HO.kk)))
         obtain ⟨LR, hLR⟩ : ∃ LR : List As, Hid (LR = cls gI #[.int .u16 i.op, .int .u32 i.ty, .int .u32 i.res, .slice (some ⟨gA, 0, none⟩) i.args.length cA] 43 :: rw_ w.heap.size 43 4 (.slice (some ⟨g0,0,none⟩) po2.length c0) (po2).length (flatI (po2)) :: argsA D2 q :: cls gO #[.int .u32 gen, .int .u32 (bound + nm : Nat), (.slice (some ⟨g0,0,none⟩) po2.length c0)] 28 :: L4) := ⟨_, hid rfl⟩
         have H1 : Hid (∃ B, Own noX w (rw_ B 45 3 (.slice (some ⟨gA, 0, none⟩) i.args.length cA) i.args.length ((mixA r i.args 0).flatMap agCells) :: LR) W') := hid ⟨_, by rw [hLR.out, hL4.out, mix_zero]; exact HO⟩
         clear HO
         (try clear kk)
         go_loopw [115] (fun x115 wr => ∃ j B : Nat, j ≤ i.args.length ∧ x115 = .int .i64 j ∧ Own noX w (rw_ B 45 3 (.slice (some ⟨gA, 0, none⟩) i.args.length cA) i.args.length ((mixA r i.args j).flatMap agCells) :: LR) wr) (fun x _ => i.args.length - (intOf x).toNat)
         case atStart => exact ⟨0, H1.out.choose, by omega, rfl, H1.out.choose_spec⟩
         case round =>
          obtain ⟨j, B, hj, rfl, HO⟩ := hrel
          clear H1
          rw [hLR.out, hL4.out] at HO
          by_cases hjl : j < i.args.length
          ·have j2 : (j : Int) < i.args.length := by omega
           have hm := mix_cells (r := r) hjl
           have a0 := HO.rowcell 0 (j * 3) rfl hm.1
           have a1 := HO.rowcell 0 (j * 3 + 1) rfl hm.2.1
           have a2 := HO.rowcell 0 (j * 3 + 2) rfl hm.2.2
           clear hm
           have HJ := hid hjl
           have HC2 := hid (mix_cells (r := r) hjl).2.1
           have htn := hid (fun hk hn => mix_turn (r := r) hjl hk hn)
           have hkp := hid (fun hk => mix_keep (r := r) hjl hk)
           generalize i.args[j] = a at a0 a1 a2 htn hkp HC2
           clear hjl hj
           (try simp only [zTz, zTs, zTa, zDs, zDz] at HO); (try have kk := HO.kk)
           go_upto_region 27 with (first | ((first | (with_reducible refine sp_al HO ?_; intro g hg; rw [← hg.out]; clear hg) | (with_reducible first | refine sp_sk HO ?_ | refine sp_skc HO ?_) | (refine sp_wk HO rfl 45 _ _ rfl rfl rfl (by kernel_rfl) (by rfl) (by simp [Value.oneCell']) ?_)); clear HO; (try clear kk); intro W' HO; (try simp only [zTz, zTs, zTa] at HO); (try have kk := HO.kk)))
           obtain ⟨gB, rfl⟩ : ∃ q, q = g := ⟨_, rfl⟩
           (try clear kk)
           by_cases hn7 : a.n = 7
           ·have hlk : (Instr.lookup 72 (.map (some gT)) (.int .u32 a.n) true).run Tryz.prog W' = .ok (.tuple #[.int .u32 r, .bool true]) W' := by
             obtain ⟨v, hv, hq⟩ := (HO.at 13 rfl : Mp _ _ _ _ _ _).hit keysU Tryz.underlying72 Tryz.underlying23 (k := a.n) (x := r) (if_pos hn7)
             have hq := hq true
             rw [hv] at hq
             exact hq
            by_cases hk1 : a.kind = 1
            ·have hk2 : ((a.kind : Int) == 1) = true := by rw [hk1]; rfl
             have ht := hid (htn.out hk1 hn7)
             clear hn7 hk1 htn hkp a0 a1 a2
             have a1 := HO.rowcell 1 (j * 3 + 1) rfl HC2.out
             have fz := World.ownsRow.frozenAt (HO.at 1 rfl : W'.ownsRow B _ 3 (.slice (some ⟨gA, 0, none⟩) _ cA) _ ((mixA r i.args j).flatMap agCells)) (j * 3 + 1)
             (try simp only [zTz, zTs, zTa, zDs, zDz] at HO); (try have kk := HO.kk)
             go_wp2_with (first | ((first | refine sp_rowset 1 HO rfl ?_ | refine sp_rowsetc 1 HO rfl ?_); intro W9 HO9; clear HO; (try clear kk); have HO := HO9; clear HO9; (try simp only [List.set_cons_succ, List.set_cons_zero] at HO); (try simp only [zTz, zTs, zTa, zDs, zDz] at HO); (try have kk := HO.kk)))
             rw [ht.out] at HO
             exact ⟨⟨j + 1, B, HJ.out, by go_num, by rw [hLR.out, hL4.out]; exact HO.drop 1⟩, by have := HJ.out; simp [intOf]; omega⟩
            ·have hk2 : ((a.kind : Int) == 1) = false := by rw [beq_eq_false_iff_ne]; omega
             have ht := hid (hkp.out (fun e => hk1 e.1))
             clear hn7 hk1 htn hkp
             (try simp only [zTz, zTs, zTa, zDs, zDz] at HO); (try have kk := HO.kk)
             go_wp2_with fail
             exact ⟨⟨j + 1, B, HJ.out, by go_num, by rw [hLR.out, hL4.out, ht.out]; exact HO.drop 1⟩, by have := HJ.out; simp [intOf]; omega⟩
           ·have hlk : (Instr.lookup 72 (.map (some gT)) (.int .u32 a.n) true).run Tryz.prog W' = .ok (.tuple #[.int .u32 0, .bool false]) W' := (HO.at 13 rfl : Mp _ _ _ _ _ _).miss keysU Tryz.underlying72 Tryz.underlying23 (k := a.n) (if_neg hn7) (zeroTo W') true
            have ht := hid (hkp.out (fun e => hn7 e.2))
            clear hn7 htn hkp
            (try simp only [zTz, zTs, zTa, zDs, zDz] at HO); (try have kk := HO.kk)
            go_wp2_with fail
            exact ⟨⟨j + 1, B, HJ.out, by go_num, by rw [hLR.out, hL4.out, ht.out]; exact HO.drop 1⟩, by have := HJ.out; simp [intOf]; omega⟩
          ·obtain rfl : j = i.args.length := by omega
           have j2 : ¬ ((i.args.length : Nat) : Int) < i.args.length := by omega
           clear hjl hj
           (try simp only [zTz, zTs, zTa, zDs, zDz] at HO); (try have kk := HO.kk)
           go_wp2_with (first | ((first | (with_reducible refine sp_al HO ?_; intro g hg; rw [← hg.out]; clear hg) | (with_reducible first | refine sp_sk HO ?_ | refine sp_skc HO ?_)); clear HO; (try clear kk); intro W' HO; (try simp only [zTz, zTs, zTa] at HO); (try have kk := HO.kk)) | ((with_reducible refine at_append ?_); refine sp_append HO el_inst 3 0 rfl rfl rfl _ _ rfl rfl rfl rfl (by simp [Value.oneCell']) (by omega) (by omega) (Nat.le_refl _) ?_; clear HO; (try clear kk); intro r0 d0 W' HO; (try simp only [zTz, zTs, zTa] at HO); (try simp only [zTz, zTs, zTa, zDs, zDz] at HO); (try have kk := HO.kk)))
           have hlm : (subI r i).args.length = i.args.length := List.length_map ..
           have hfin : OutSt w gO gen (bound + nm) l LM r p L4 (k + 1) W' := OutSt.push (i := i) (xs := flatI (po2) ++ [.int .u16 i.op, .int .u32 i.ty, .int .u32 i.res, .slice (some ⟨gA, 0, none⟩) i.args.length cA]) (subI r i, some ⟨gA, 0, none⟩, cA) rfl hgd.out H7.out hmp2.out hpq2.out HS.out.2.1 rfl (by rw [hlm]; rfl) (by
            rw [hL4.out]
            replace HO := HO.pull 3 rfl
            simp only [List.eraseIdx_cons_zero, List.eraseIdx_cons_succ] at HO
            replace HO := HO.pull 3 rfl
            simp only [List.eraseIdx_cons_zero, List.eraseIdx_cons_succ] at HO
            replace HO := HO.pull 2 rfl
            simp only [List.eraseIdx_cons_zero, List.eraseIdx_cons_succ] at HO
            replace HO := HO.pull 4 rfl
            simp only [List.eraseIdx_cons_zero, List.eraseIdx_cons_succ] at HO
            replace HO := HO.pull 4 rfl
            simp only [List.eraseIdx_cons_zero, List.eraseIdx_cons_succ] at HO
            rw [mix_all, show i.args.map (subA r) = (subI r i).args from rfl, ← hlm] at HO
            have HN := (args_row (i := subI r i) HO).sub (.cons_cons _ (.cons _ (.cons _ (List.Sublist.refl _))))
            rw [hlm] at HN
            exact HN.perm (.swap _ _ _))
           clear HO
           exact ⟨⟨k + 1, HK.out, by go_num, hfin⟩, by have := HK.out; simp [intOf]; omega⟩
      ·skip
       have i5 : ((k : Int) == 5) = false := by rw [beq_eq_false_iff_ne]; omega
       have H5 := hid h5
       clear h5
       (try simp only [zTz, zTs, zTa, zDs, zDz] at HO); (try have kk := HO.kk)
       go_upto_region 21 with (first | ((first | (with_reducible refine sp_al HO ?_; intro g hg; rw [← hg.out]; clear hg) | (with_reducible first | refine sp_sk HO ?_ | refine sp_skc HO ?_) | (refine sp_wk HO rfl 43 _ _ rfl rfl rfl (by kernel_rfl) (by rfl) (by simp [Value.oneCell']) ?_)); clear HO; (try clear kk); intro W' HO; (try simp only [zTz, zTs, zTa] at HO); (try have kk := HO.kk)))
       obtain ⟨gI, rfl⟩ : ∃ q, q = g := ⟨_, rfl⟩
       (try clear kk)
       by_cases h7 : k = 7
       ·have hlk : (Instr.lookup 72 (.map (some gT)) (.int .u32 i.res) true).run Tryz.prog W' = .ok (.tuple #[.int .u32 r, .bool true]) W' := by
         obtain ⟨v, hv, hq⟩ := (HO.at 11 rfl : Mp _ _ _ _ _ _).hit keysU Tryz.underlying72 Tryz.underlying23 (k := i.res) (x := r) (if_pos (hr7.out.1.2 h7))
         have hq := hq true
         rw [hv] at hq
         exact hq
        have H7 := hid h7
        clear h7
        (try simp only [zTz, zTs, zTa, zDs, zDz] at HO); (try have kk := HO.kk)
        go_wp2_with fail
        exact ⟨⟨k + 1, HK.out, by go_num, ⟨q, po, D2, _, HS.out.1, HS.out.2.1, by rw [HS.out.2.2, H7.out]; simp [outL], by rw [hL4.out]; exact HO.drop 1⟩⟩, by have := HK.out; simp [intOf]; omega⟩
       ·have H7 := hid h7
        clear h7
        have hmp : po.map Prod.fst = outL l LM r k ++ (if k = 5 then LM else []) := by rw [HS.out.2.2, if_neg H5.out, List.append_nil]
        have hlk : (Instr.lookup 72 (.map (some gT)) (.int .u32 i.res) true).run Tryz.prog W' = .ok (.tuple #[.int .u32 0, .bool false]) W' := (HO.at 11 rfl : Mp _ _ _ _ _ _).miss keysU Tryz.underlying72 Tryz.underlying23 (k := i.res) (if_neg (fun e => H7.out (hr7.out.1.1 e))) (zeroTo W') true
        have cNm := fun (W : World) => fnamed_own F i.op (.int .u32 i.ty) (.int .u32 i.res) (.slice sa i.args.length sl) hr7.out.2.1.1 hr7.out.2.1.2.1 hr7.out.2.1.2.2 W
        by_cases ha : i.args = []
        ·have hsa := hr7.out.2.2.1 ha
         injection hsa with hsa hsl
         subst hsa hsl
         rw [ha, List.length_nil] at e3 HO cNm
         have HA := hid ha
         clear ha
         have cCl := fun (W : World) => clonea_nil W
         (try simp only [zTz, zTs, zTa, zDs, zDz] at HO); (try have kk := HO.kk)
         go_wp2_with (first | ((first | (with_reducible refine sp_al HO ?_; intro g hg; rw [← hg.out]; clear hg) | (with_reducible first | refine sp_sk HO ?_ | refine sp_skc HO ?_) | (refine sp_wk HO rfl 43 _ _ rfl rfl rfl (by kernel_rfl) (by rfl) (by simp [Value.oneCell']) ?_)); clear HO; (try clear kk); intro W' HO; (try simp only [zTz, zTs, zTa] at HO); (try have kk := HO.kk)) | (go_at_call 20; (with_reducible refine (cNm _).mono ?_); rintro e w1 ⟨rfl, hn1⟩; replace HO := HO.then hn1; clear hn1; (try clear kk); (try simp only [zTz, zTs, zTa, zDs, zDz] at HO); (try have kk := HO.kk)) | (go_at_call 21; (with_reducible refine (cCl _).mono ?_); rintro e w1 ⟨rfl, rfl⟩))
         refine wp_loop_rounds 1 ?_
         rw [rounds_succ]
         go_wp2_with (first | ((first | (with_reducible refine sp_al HO ?_; intro g hg; rw [← hg.out]; clear hg) | (with_reducible first | refine sp_sk HO ?_ | refine sp_skc HO ?_)); clear HO; (try clear kk); intro W' HO; (try simp only [zTz, zTs, zTa] at HO); (try have kk := HO.kk)) | ((with_reducible refine at_append ?_); refine sp_append HO el_inst 2 0 rfl rfl rfl _ _ rfl rfl rfl rfl (by simp [Value.oneCell']) (by omega) (by omega) (Nat.le_refl _) ?_; clear HO; (try clear kk); intro r0 d0 W' HO; (try simp only [zTz, zTs, zTa] at HO); (try simp only [zTz, zTs, zTa, zDs, zDz] at HO); (try have kk := HO.kk)))
         have hfin : OutSt w gO gen (bound + nm) l LM r p L4 (k + 1) W' := OutSt.push (i := i) (xs := flatI po ++ [.int .u16 i.op, .int .u32 i.ty, .int .u32 i.res, .slice none 0 0]) (subI r i, none, 0) rfl hgd.out H7.out hmp HS.out.1 HS.out.2.1 rfl (by simp [subI, HA.out]) (by
          rw [hL4.out]
          exact (args_no (HO.sub (.cons _ (.cons _ (List.Sublist.refl _))) |>.perm (.swap _ _ _)) (by simp [subI, HA.out])).perm (.swap _ _ _))
         clear HO
         exact ⟨⟨k + 1, HK.out, by go_num, hfin⟩, by have := HK.out; simp [intOf]; omega⟩
        ·have h0 : 0 < i.args.length := List.length_pos_iff.2 ha
         obtain ⟨ab, ao, esa, -, -⟩ := hr7.out.2.2.2.2.at_ h0
         subst esa
         have cCl := fun (W : World) (hb : Below w.heap.size w W) => clonea_own ab ao sl i.args h0 (by have := hr7.out.2.2.2.1; omega) W (hr7.out.2.2.2.2.below AgAt.lasts hb)
         have hn1 : i.args.length ≤ 1000 := hr7.out.2.2.2.1
         clear ha
         (try simp only [zTz, zTs, zTa, zDs, zDz] at HO); (try have kk := HO.kk)
         go_wp2_with (first | ((first | (with_reducible refine sp_al HO ?_; intro g hg; rw [← hg.out]; clear hg) | (with_reducible first | refine sp_sk HO ?_ | refine sp_skc HO ?_) | (refine sp_wk HO rfl 43 _ _ rfl rfl rfl (by kernel_rfl) (by rfl) (by simp [Value.oneCell']) ?_)); clear HO; (try clear kk); intro W' HO; (try simp only [zTz, zTs, zTa] at HO); (try have kk := HO.kk)) | (go_at_call 20; (with_reducible refine (cNm _).mono ?_); rintro e w1 ⟨rfl, hn1⟩; replace HO := HO.then hn1; clear hn1; (try clear kk); (try simp only [zTz, zTs, zTa, zDs, zDz] at HO); (try have kk := HO.kk)) | (go_at_call 21; (with_reducible refine (cCl _ HO.below).mono ?_); rintro e w1 ⟨gA, cA, rfl, hq2⟩; replace HO := HO.app hq2; clear hq2; (try simp only [List.cons_append, List.nil_append] at HO); (try clear kk); (try simp only [zTz, zTs, zTa, zDs, zDz] at HO); (try have kk := HO.kk)))
         obtain ⟨LR, hLR⟩ : ∃ LR : List As, Hid (LR = cls gI #[.int .u16 i.op, .int .u32 i.ty, .int .u32 i.res, .slice (some ⟨gA, 0, none⟩) i.args.length cA] 43 :: rw_ w.heap.size 43 4 (.slice aO po.length cO) (po).length (flatI (po)) :: argsA D2 q :: cls gO #[.int .u32 gen, .int .u32 (bound + nm : Nat), (.slice aO po.length cO)] 28 :: L4) := ⟨_, hid rfl⟩
         have H1 : Hid (∃ B, Own noX w (rw_ B 45 3 (.slice (some ⟨gA, 0, none⟩) i.args.length cA) i.args.length ((mixA r i.args 0).flatMap agCells) :: LR) W') := hid ⟨_, by rw [hLR.out, hL4.out, mix_zero]; exact HO⟩
         clear HO
         (try clear kk)
         go_loopw [115] (fun x115 wr => ∃ j B : Nat, j ≤ i.args.length ∧ x115 = .int .i64 j ∧ Own noX w (rw_ B 45 3 (.slice (some ⟨gA, 0, none⟩) i.args.length cA) i.args.length ((mixA r i.args j).flatMap agCells) :: LR) wr) (fun x _ => i.args.length - (intOf x).toNat)
         case atStart => exact ⟨0, H1.out.choose, by omega, rfl, H1.out.choose_spec⟩
         case round =>
          obtain ⟨j, B, hj, rfl, HO⟩ := hrel
          clear H1
          rw [hLR.out, hL4.out] at HO
          by_cases hjl : j < i.args.length
          ·have j2 : (j : Int) < i.args.length := by omega
           have hm := mix_cells (r := r) hjl
           have a0 := HO.rowcell 0 (j * 3) rfl hm.1
           have a1 := HO.rowcell 0 (j * 3 + 1) rfl hm.2.1
           have a2 := HO.rowcell 0 (j * 3 + 2) rfl hm.2.2
           clear hm
           have HJ := hid hjl
           have HC2 := hid (mix_cells (r := r) hjl).2.1
           have htn := hid (fun hk hn => mix_turn (r := r) hjl hk hn)
           have hkp := hid (fun hk => mix_keep (r := r) hjl hk)
           generalize i.args[j] = a at a0 a1 a2 htn hkp HC2
           clear hjl hj
           (try simp only [zTz, zTs, zTa, zDs, zDz] at HO); (try have kk := HO.kk)
           go_upto_region 27 with (first | ((first | (with_reducible refine sp_al HO ?_; intro g hg; rw [← hg.out]; clear hg) | (with_reducible first | refine sp_sk HO ?_ | refine sp_skc HO ?_) | (refine sp_wk HO rfl 45 _ _ rfl rfl rfl (by kernel_rfl) (by rfl) (by simp [Value.oneCell']) ?_)); clear HO; (try clear kk); intro W' HO; (try simp only [zTz, zTs, zTa] at HO); (try have kk := HO.kk)))
           obtain ⟨gB, rfl⟩ : ∃ q, q = g := ⟨_, rfl⟩
           (try clear kk)
           by_cases hn7 : a.n = 7
           ·have hlk : (Instr.lookup 72 (.map (some gT)) (.int .u32 a.n) true).run Tryz.prog W' = .ok (.tuple #[.int .u32 r, .bool true]) W' := by
             obtain ⟨v, hv, hq⟩ := (HO.at 13 rfl : Mp _ _ _ _ _ _).hit keysU Tryz.underlying72 Tryz.underlying23 (k := a.n) (x := r) (if_pos hn7)
             have hq := hq true
             rw [hv] at hq
             exact hq
            by_cases hk1 : a.kind = 1
            ·have hk2 : ((a.kind : Int) == 1) = true := by rw [hk1]; rfl
             have ht := hid (htn.out hk1 hn7)
             clear hn7 hk1 htn hkp a0 a1 a2
             have a1 := HO.rowcell 1 (j * 3 + 1) rfl HC2.out
             have fz := World.ownsRow.frozenAt (HO.at 1 rfl : W'.ownsRow B _ 3 (.slice (some ⟨gA, 0, none⟩) _ cA) _ ((mixA r i.args j).flatMap agCells)) (j * 3 + 1)
             (try simp only [zTz, zTs, zTa, zDs, zDz] at HO); (try have kk := HO.kk)
             go_wp2_with (first | ((first | refine sp_rowset 1 HO rfl ?_ | refine sp_rowsetc 1 HO rfl ?_); intro W9 HO9; clear HO; (try clear kk); have HO := HO9; clear HO9; (try simp only [List.set_cons_succ, List.set_cons_zero] at HO); (try simp only [zTz, zTs, zTa, zDs, zDz] at HO); (try have kk := HO.kk)))
             rw [ht.out] at HO
             exact ⟨⟨j + 1, B, HJ.out, by go_num, by rw [hLR.out, hL4.out]; exact HO.drop 1⟩, by have := HJ.out; simp [intOf]; omega⟩
            ·have hk2 : ((a.kind : Int) == 1) = false := by rw [beq_eq_false_iff_ne]; omega
             have ht := hid (hkp.out (fun e => hk1 e.1))
             clear hn7 hk1 htn hkp
             (try simp only [zTz, zTs, zTa, zDs, zDz] at HO); (try have kk := HO.kk)
             go_wp2_with fail
             exact ⟨⟨j + 1, B, HJ.out, by go_num, by rw [hLR.out, hL4.out, ht.out]; exact HO.drop 1⟩, by have := HJ.out; simp [intOf]; omega⟩
           ·have hlk : (Instr.lookup 72 (.map (some gT)) (.int .u32 a.n) true).run Tryz.prog W' = .ok (.tuple #[.int .u32 0, .bool false]) W' := (HO.at 13 rfl : Mp _ _ _ _ _ _).miss keysU Tryz.underlying72 Tryz.underlying23 (k := a.n) (if_neg hn7) (zeroTo W') true
            have ht := hid (hkp.out (fun e => hn7 e.2))
            clear hn7 htn hkp
            (try simp only [zTz, zTs, zTa, zDs, zDz] at HO); (try have kk := HO.kk)
            go_wp2_with fail
            exact ⟨⟨j + 1, B, HJ.out, by go_num, by rw [hLR.out, hL4.out, ht.out]; exact HO.drop 1⟩, by have := HJ.out; simp [intOf]; omega⟩
          ·obtain rfl : j = i.args.length := by omega
           have j2 : ¬ ((i.args.length : Nat) : Int) < i.args.length := by omega
           clear hjl hj
           (try simp only [zTz, zTs, zTa, zDs, zDz] at HO); (try have kk := HO.kk)
           go_wp2_with (first | ((first | (with_reducible refine sp_al HO ?_; intro g hg; rw [← hg.out]; clear hg) | (with_reducible first | refine sp_sk HO ?_ | refine sp_skc HO ?_)); clear HO; (try clear kk); intro W' HO; (try simp only [zTz, zTs, zTa] at HO); (try have kk := HO.kk)) | ((with_reducible refine at_append ?_); refine sp_append HO el_inst 3 0 rfl rfl rfl _ _ rfl rfl rfl rfl (by simp [Value.oneCell']) (by omega) (by omega) (Nat.le_refl _) ?_; clear HO; (try clear kk); intro r0 d0 W' HO; (try simp only [zTz, zTs, zTa] at HO); (try simp only [zTz, zTs, zTa, zDs, zDz] at HO); (try have kk := HO.kk)))
           have hlm : (subI r i).args.length = i.args.length := List.length_map ..
           have hfin : OutSt w gO gen (bound + nm) l LM r p L4 (k + 1) W' := OutSt.push (i := i) (xs := flatI (po) ++ [.int .u16 i.op, .int .u32 i.ty, .int .u32 i.res, .slice (some ⟨gA, 0, none⟩) i.args.length cA]) (subI r i, some ⟨gA, 0, none⟩, cA) rfl hgd.out H7.out hmp HS.out.1 HS.out.2.1 rfl (by rw [hlm]; rfl) (by
            rw [hL4.out]
            replace HO := HO.pull 3 rfl
            simp only [List.eraseIdx_cons_zero, List.eraseIdx_cons_succ] at HO
            replace HO := HO.pull 3 rfl
            simp only [List.eraseIdx_cons_zero, List.eraseIdx_cons_succ] at HO
            replace HO := HO.pull 2 rfl
            simp only [List.eraseIdx_cons_zero, List.eraseIdx_cons_succ] at HO
            replace HO := HO.pull 4 rfl
            simp only [List.eraseIdx_cons_zero, List.eraseIdx_cons_succ] at HO
            replace HO := HO.pull 4 rfl
            simp only [List.eraseIdx_cons_zero, List.eraseIdx_cons_succ] at HO
            rw [mix_all, show i.args.map (subA r) = (subI r i).args from rfl, ← hlm] at HO
            have HN := (args_row (i := subI r i) HO).sub (.cons_cons _ (.cons _ (.cons _ (List.Sublist.refl _))))
            rw [hlm] at HN
            exact HN.perm (.swap _ _ _))
           clear HO
           exact ⟨⟨k + 1, HK.out, by go_num, hfin⟩, by have := HK.out; simp [intOf]; omega⟩
     ·obtain rfl : k = l.length := by omega
      have i2 : ¬ ((l.length : Nat) : Int) < l.length := by omega
      clear hkl hk
      (try simp only [zTz, zTs, zTa, zDs, zDz] at HO); (try have kk := HO.kk)
      have hpl3 : po.length = (outL l LM r l.length).length := by rw [← HS.out.2.2, List.length_map]
      obtain ⟨gq, rfl, -, -, -, -⟩ := HO.slice2 0 rfl (by rw [hpl3, hLM.out]; exact HE.out.1)
      rw [hpl3] at HO
      have HO2 := HO.recast 1 (A' := argsA D2 po) rfl (fun k hk => hk) (argsA_mono (HO.at 1 rfl) HS.out.1)
      simp only [List.set_cons_succ, List.set_cons_zero] at HO2
      clear HO
      have HO := HO2
      clear HO2
      have HX := hid (fun (W : World) (i j : Nat) (L : List As) (h : Own noX w L W) h1 h2 => ms_of (p := po) (D := D2) (base := w.heap.size) (g := gq) (c := cO) (m := (outL l LM r l.length).length) h i j h1 h2 (outL l LM r l.length) HS.out.2.2 (by rw [hLM.out]; exact HE.out.1) (by rw [hLM.out]; exact HE.out.2.2))
      have cSh := fun (W : World) (i j : Nat) (L : List As) (h : Own noX w L W) h1 h2 => (show Calls Tryz.prog 22 #[.agg #[.int .u32 gen, .int .u32 ((bound : Int) + nm), .slice (some ⟨gq, 0, none⟩) (outL l LM r l.length).length cO]] W _ from shape_ok gen (bound + nm) (some ⟨gq, 0, none⟩) cO (outL l LM r l.length) W (HX.out W i j L h h1 h2).back (by rw [hLM.out, ← hnm.out]; exact HE.out.2.1))
      have hnx : Hid ((outL l LM r l.length).length = (outL l (madeL there ty r z) r l.length).length) := hid (by rw [hLM.out])
      generalize (outL l LM r l.length).length = nx at HO cSh HX hpl3 hnx
      (try simp only [zTz, zTs, zTa, zDs, zDz] at HO); (try have kk := HO.kk)
      go_wp2_with (first | ((first | (with_reducible refine sp_al HO ?_; intro g hg; rw [← hg.out]; clear hg) | (with_reducible first | refine sp_sk HO ?_ | refine sp_skc HO ?_) | (refine sp_wk HO rfl 36 _ _ rfl rfl rfl (by kernel_rfl) (by rfl) (by simp [Value.oneCell']) ?_) | (refine sp_wk HO rfl 28 _ _ rfl rfl rfl (by kernel_rfl) (by rfl) (by simp [Value.oneCell']) ?_)); clear HO; (try clear kk); intro W' HO; (try simp only [zTz, zTs, zTa] at HO); (try have kk := HO.kk)) | (go_at_call 22; (with_reducible refine (cSh _ 0 1 _ HO rfl rfl).mono ?_); rintro e w1 ⟨rfl, hn1⟩; replace HO := HO.then hn1; clear hn1; (try clear kk); (try simp only [zTz, zTs, zTa, zDs, zDz] at HO); (try have kk := HO.kk)))
      refine bodyPost_ret_by (res_row_row rfl _ _ _ _ 28 36 #[.int .u32 gen, .int .u32 (bound + nm : Nat), .slice (some ⟨gq, 0, none⟩) nx cO] #[.int .i64 0, .int .i64 0] _ _ _ _ rfl (HO.blk 16 rfl) Tryz.underlying28 rfl infoMdl3 rfl (HO.blk 15 rfl) Tryz.underlying36 rfl infoSpt) rfl ?_
      have hfi := HX.out _ 1 2 _ HO rfl rfl
      refine ⟨gq, cO, _, ?_, by rw [hLM.out] at hfi; exact hfi, HO.below⟩
      rw [hnx.out, ← hnm.out]
end Go.Proofs.YtindnnbopaeklaaGreatDoor
