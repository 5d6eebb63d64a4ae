/- Types: New. -/
import Derived.Test.YtlkolghiknbbfaaGreatDoorAt
import Derived.Test.YtlkolghiknbbfaaGreatDoorAw
set_option linter.unusedVariables false
set_option linter.unusedSimpArgs false
set_option maxRecDepth 100000
set_option maxHeartbeats 4000000
namespace Go.Proofs.YtlkolghiknbbfaaGreatDoor
open Go.RowKit Go.MapKept
def zD : dU := ⟨0, 0, 0, false, 0, 0, 0, []⟩
def aD (tab : Nat → Option dU) (id : Nat) : dU := (tab id).getD zD
inductive wK (tab : Nat → Option dU) : In → Option dU → Prop
 | other (i : In) (h : ik i.op = false) : wK tab i none
 | void (ty res : Nat) : wK tab ⟨19, ty, res, []⟩ (some ⟨1, 0, 0, false, 0, 0, 0, []⟩)
 | int (ty res : Nat) (a b : Ag) (h : a.n = 32) (hb : b.n ≤ 1) : wK tab ⟨21, ty, res, [a, b]⟩ (some ⟨3, 1, 1, b.n == 1, 0, 0, 0, []⟩)
 | vec (ty res : Nat) (a b : Ag) (hk : (aD tab a.n).kind = 3) (hn : 2 ≤ b.n ∧ b.n ≤ 4) (hd : (aD tab a.n).depth + 1 ≤ 16) : wK tab ⟨23, ty, res, [a, b]⟩ (some ⟨4, b.n, (aD tab a.n).depth + 1, false, 0, a.n, b.n, []⟩)
 | ptr (ty res : Nat) (a b : Ag) (hs : 0 < (aD tab b.n).size) : wK tab ⟨32, ty, res, [a, b]⟩ (some ⟨7, 0, 0, false, a.n, 0, 0, [b.n]⟩)
 | fn (ty res : Nat) (a : Ag) (hk : (aD tab a.n).kind = 1) (hs : (aD tab a.n).size = 0) : wK tab ⟨33, ty, res, [a]⟩ (some ⟨8, 0, 0, false, 0, 0, 0, [a.n]⟩)
structure NQ (x : Ty) (d : dU) : Prop where
 kind : x.kind = d.kind
 size : x.size = d.size
 depth : x.depth = d.depth
 sg : x.sg = d.sg
 aP : x.aP = d.aP
 part : x.part = d.part
 times : x.times = d.times
 pn : x.pn = d.parts.length
def lw (f : Nat → Option Ty) (tab : Nat → Option dU) : Prop := ∀ id, NQ (aV f id) (aD tab id) ∧ ((f id).isSome = (tab id).isSome)
theorem lw.one {f : Nat → Option Ty} {tab : Nat → Option dU} (h : lw f tab) {i : In} {r : Option dU} (ho : wK tab i r) : jT f i r := by
 cases ho with
 | other i h' => exact .other i h'
 | void ty res => exact .void ty res
 | int ty res a b h' hb => exact .int ty res a b h' hb
 | vec ty res a b hk hn hd =>
  have e := (h a.n).1;rw [← e.depth] at hd ⊢;exact .vec ty res a b (e.kind.trans hk) hn hd
 | ptr ty res a b hs => exact .ptr ty res a b (by rw [(h b.n).1.size]; exact hs)
 | fn ty res a hk hs => exact .fn ty res a ((h a.n).1.kind.trans hk) ((h a.n).1.size.trans hs)
theorem lw.dJ {f : Nat → Option Ty} {tab : Nat → Option dU} (h : lw f tab) {x : Ty} {d : dU} (hx : NQ x d) (id : Nat) : lw (dJ f id x) (Go.Proofs.YtlkolghiknbbfaaGreatDoor.dJ tab id d) := fun j => by
 unfold aV aD Go.Proofs.YtlkolghiknbbfaaGreatDoor.dJ;by_cases e : j = id
 ·rw [if_pos e, if_pos e]; exact ⟨hx, rfl⟩
 ·rw [if_neg e, if_neg e]; exact h j
def iC (l : List In) (D : Nat → Option dU) : Nat → Nat → Option dU
 | 0 => fun _ => none
 | k + 1 => match D k with
  | none => iC l D k
  | some d => dJ (iC l D k) (l.getD k ai).res d
def jm (l : List In) (D : Nat → Option dU) : Nat → ByteArray → Option Nat
 | 0 => fun _ => none
 | k + 1 => match D k with
  | none => jm l D k
  | some _ => dJ (jm l D k) (keyOf (l.getD k ai)) 1
structure qW (l : List In) (D : Nat → Option dU) : Prop where
 one : ∀ k (h : k < l.length), wK (iC l D k) l[k] (D k)
 fresh : ∀ k (h : k < l.length), D k ≠ none → jm l D k (keyOf l[k]) = none
 small : ∀ k (h : k < l.length), D k ≠ none → l[k].op < 100 ∧ l[k].op ≠ 28 ∧ l[k].op ≠ 30 ∧ ∀ j (h : j < l[k].args.length), l[k].args[j].n < 100
def vN (D : Nat → Prop) (f : Nat → Option Ty) (tab : Nat → Option dU) : As := ⟨D, fun W => ∀ id x d, f id = some x → tab id = some d → 0 < d.parts.length → ∃ b o, x.pa = some ⟨b, o, none⟩ ∧ D b ∧ ∀ i (h : i < d.parts.length), W.cell? ⟨b, o + i, none⟩ = some (.int .u32 d.parts[i]), fun W W' h hk id x d h1 h2 h3 => by
 obtain ⟨b, o, e, hb, hc⟩ := h id x d h1 h2 h3
 exact ⟨b, o, e, hb, fun i hi => (World.cell?_of_block (a := ⟨b, o + i, none⟩) (hk b hb)).trans (hc i hi)⟩⟩
theorem Own.rows {X : Nat → Prop} {w W : World} {L : List As} {D : Nat → Prop} {f : Nat → Option Ty} {tab : Nat → Option dU} {lo hi : Nat} {x : Ty} {d : dU} (h : Own X w (Go.Proofs.YtlkolghiknbbfaaGreatDoor.deep lo hi (fun lo W => vR W lo x.pa d.parts) :: vN D f tab :: L) W) (id : Nat) : Own X w (vN (fun k => (lo ≤ k ∧ k < hi) ∨ D k) (dJ f id x) (dJ tab id d) :: L) W := by
 have h2 := h.join;have hd := (h.at 0 rfl : aO _ _ _ W);have hr := h.at 1 rfl;refine h2.recast 0 (A' := vN (fun k => (lo ≤ k ∧ k < hi) ∨ D k) (dJ f id x) (dJ tab id d)) rfl (fun k hk => hk) ?_;intro j y e h1 h3 h4;unfold dJ at h1 h3;by_cases q : j = id
 ·rw [if_pos q] at h1 h3
  cases h1; cases h3
  obtain ⟨U, u1, u2, u3⟩ := hd.at_;obtain ⟨b, o, e1, e2, e3⟩ := u2 h4;have hb : b < hi := by rw [← u1]; exact block_lt_of_cell (e3 0 h4)
  exact ⟨b, o, e1, .inl ⟨e2, hb⟩, fun i hi' => (World.cell?_of_block (a := ⟨b, o + i, none⟩) (u3 b e2 hb)).trans (e3 i hi')⟩
 ·rw [if_neg q] at h1 h3
  obtain ⟨b, o, e1, e2, e3⟩ := hr j y e h1 h3 h4;exact ⟨b, o, e1, .inr e2, e3⟩
def encM (x : In × Option Addr × Nat) : Value := uB x.1 x.2
def nwL (w : World) (l : List In) (D : Nat → Option dU) (K sn mk T al : Nat) (f : Nat → Option Ty) (fm : Nat → Option (In × Option Addr × Nat)) (v : Value) (n : Nat) (xs : List Value) (Dm : Nat → Prop) (k : Nat) (L : List As) : List As :=
 vN Dm f (iC l D k) :: bM w.heap.size 22 1 v n xs :: aP K #[.pointer (some ⟨T, 0, none⟩), .map (some mk), .map (some sn)] 223 :: sA sn (jm l D k) :: iO (.int .u32) bR encM mk fm :: aP T #[.map (some al), v] 219 :: iO (.int .u32) bR fK al f :: L
structure NwSt (w : World) (l : List In) (D : Nat → Option dU) (K sn mk T al : Nat) (L : List As) (k : Nat) (W : World) : Prop where
 at_ : ∃ f fm v n xs Dm, lw f (iC l D k) ∧ n ≤ k ∧ Own aK w (nwL w l D K sn mk T al f fm v n xs Dm k L) W
theorem tab0 : lw (fun _ => none) (fun _ => none) := fun id => ⟨⟨rfl, rfl, rfl, rfl, rfl, rfl, rfl, rfl⟩, rfl⟩
structure dX (lo T : Nat) (tab : Nat → Option dU) (W : World) : Prop where
 at_ : ∃ al f Dm, lo ≤ T ∧ lo ≤ al ∧ (∀ k, Dm k → lo ≤ k) ∧ oC T al f W ∧ lw f tab ∧ (vN Dm f tab).holds W
theorem dX.below {lo T : Nat} {tab : Nat → Option dU} {W W' : World} (h : dX lo T tab W) (hb : Bl W W') : dX lo T tab W' := by
 obtain ⟨al, f, Dm, h1, h2, h3, h4, h5, h6⟩ := h.at_;refine ⟨al, f, Dm, h1, h2, h3, h4.below hb, h5, ?_⟩;intro id x d e1 e2 e3;obtain ⟨b, o, e4, e5, e6⟩ := h6 id x d e1 e2 e3;exact ⟨b, o, e4, e5, fun i hi => ae (e6 i hi) (block_lt_of_cell (e6 i hi)) hb⟩
theorem Ao (gen bound : Nat) (b o cap : Nat) (l : List In) (sv : Nat → Option Addr × Nat) (t : Nat → Nat) (m : Nat) (D : Nat → Option dU) (w : World) (hM : Ms w b o l sv) (hs : iN bound l) (ht : jf l t m) (hi : nC l t) (hty : qW l D) :
  Calls Tryz.prog 87 #[.agg #[.int .u32 gen, .int .u32 bound, .slice (some ⟨b, o, none⟩) l.length cap]] w fun r w' => (∃ T, r = .returned (.tuple #[.pointer (some ⟨T, 0, none⟩), .agg #[.int .i64 0, .int .i64 0]]) ∧ dX w.heap.size T (iC l D l.length) w') ∧ Bl w w' := by
 have hn := hs.len;have cI : ∀ W, Bl w W → Qc 91 #[.agg #[.int .u32 gen, .int .u32 bound, .slice (some ⟨b, o, none⟩) l.length cap]] W (.agg #[.int .i64 0, .int .i64 0]) := fun W hb => iX gen bound b o cap l sv t m W (hM.below hb) hs ht hi
 have HM := hid hM;have HT := hid hty;clear hM hs ht hi hty;have HO := Own.nil w;have hmm := @run_makeMap Tryz.prog;go_enter Tryz.func87, Tryz.ntmps87;go_wp2_with (first | ((first | (with_reducible refine bf HO ?_; intro g hg; rw [← hg.out]; clear hg) | (with_reducible refine ah HO ?_) | (refine ay 39 HO ?_)); clear HO; (try clear kk); intro W' HO kk) | (go_at_call 91; with_reducible refine bq HO (cI _ HO.below) ?_; clear HO; (try clear kk); intro w1 HO kk));replace HO := HO.sub (.cons_cons _ (.cons_cons _ (.cons_cons _ (.cons_cons _ (.cons_cons _ (.cons _ (.cons_cons _ (.cons_cons _ .slnil))))))));(try clear kk);clear cI hmm;replace HO := HO.recast 1 (A' := sA _ (jm l D 0)) rfl (fun k hk => hk) (fQ (HO.blk 1 rfl));replace HO := HO.recast 2 (A' := iO (.int .u32) bR encM _ (fun _ => none)) rfl (fun k hk => hk) (fQ (HO.blk 2 rfl));replace HO := HO.recast 4 (A' := iO (.int .u32) bR fK _ (fun _ => none)) rfl (fun k hk => hk) (fQ (HO.blk 4 rfl));simp only [yT] at HO;replace HO := HO.row w.heap.size 22 1;replace HO := HO.free (A := vN (fun _ => False) (fun _ => none) (iC l D 0)) (fun k hk => hk) (fun id x d h => by cases h);rename_i gmod W7 gsp W6 gq W5 W4 gal W3 gT W2 gmk W1 gsn W0 K1 a1;obtain ⟨gK, rfl⟩ : ∃ q, q = g := ⟨_, rfl⟩;have H0 := hid (show NwSt w l D gK gsn gmk gT gal [aP gsp #[.int .i64 0, .int .i64 0] 39, aP gmod #[.int .u32 gen, .int .u32 bound, .slice (some ⟨b, o, none⟩) l.length cap] 34] 0 W' from ⟨_, _, _, 0, [], _, tab0, Nat.le_refl _, HO⟩);clear HO;(try clear kk);obtain ⟨L0, hL0⟩ : ∃ L0, Hid (L0 = [aP gsp #[.int .i64 0, .int .i64 0] 39, aP gmod #[.int .u32 gen, .int .u32 bound, .slice (some ⟨b, o, none⟩) l.length cap] 34]) := ⟨_, hid rfl⟩;rw [← hL0.out] at H0;go_loopw [6, 7, 8, 9, 10, 27] (fun _ _ _ _ _ x27 wr => ∃ k : Nat, k ≤ l.length ∧ x27 = .int .i64 k ∧ NwSt w l D gK gsn gmk gT gal L0 k wr) (fun _ _ _ _ _ x _ => l.length - (intOf x).toNat)
 case atStart => exact ⟨0, by omega, rfl, H0.out⟩
 case round =>
  obtain ⟨k, hk, rfl, hst⟩ := hrel;clear H0;obtain ⟨f, fm, v, n, xs, Dm, hrel, hnk, HO⟩ := hst.at_;have HR := hid hrel;clear hst hrel;unfold nwL at HO;by_cases hlt : k < l.length
  ·have hMM := HM.out.below HO.below
   have e0 := hMM.op k hlt;have e1 := hMM.ty k hlt;have e2 := hMM.res k hlt;have e3 := hMM.args k hlt;have zb := hMM.lt;have hsl := hid (HM.out.sl k hlt);have hal := hid (hMM.len k hlt);have hab := hid (HM.out.lt);have ho1 := hid (HT.out.one k hlt);have ho2 := hid (HT.out.fresh k hlt);have ho3 := hid (HT.out.small k hlt);have HLT := hid hlt;have hgd := hid (show l.getD k ai = l[k] from getD_at l hlt);clear hMM;have i2 : (k : Int) < l.length := by omega
   generalize l[k] = i at e0 e1 e2 e3 hsl hal ho1 ho2 ho3 hgd;generalize sv k = s at e3 hsl;clear hlt;obtain ⟨sa, sc⟩ := s;simp only at e3 hsl;have kT := HO.cells 5 rfl;have mT := HO.melt 5 rfl;(try simp only [yD] at HO); have kk := HO.kk;have hKc : ∀ W, Own aK w (nwL w l D gK gsn gmk gT gal f fm v n xs Dm k L0) W → W.cell? ⟨gK, 0, none⟩ = some (.pointer (some ⟨gT, 0, none⟩)) ∧ oC gT gal f W := fun W h => ⟨h.cell 2 0 rfl rfl, ⟨h.cell 5 0 rfl rfl, h.at 6 rfl⟩⟩
   have cO : ∀ W, Own aK w (nwL w l D gK gsn gmk gT gal f fm v n xs Dm k L0) W → Calls Tryz.prog 124 #[.pointer (some ⟨gK, 0, none⟩), .agg #[.int .u16 i.op, .int .u32 i.ty, .int .u32 i.res, .slice sa i.args.length sc]] W fun e w' => lJ W.heap.size (D k) e w' ∧ Bl W w' := fun W h => Ml gK gT gal f i sa sc (D k) W (hKc W h).1 (hKc W h).2 (hsl.out.below cz.lasts h.below) hal.out (HR.out.one ho1.out)
   cases hD : D k with
   | none =>
    rw [hD] at cO;clear hKc;go_wp2_with (first | ((first | (with_reducible refine bf HO ?_; intro g hg; rw [← hg.out]; clear hg) | (with_reducible refine ah HO ?_) | (refine ay 73 HO ?_)); clear HO; (try clear kk); intro W' HO kk));obtain ⟨gI, rfl⟩ : ∃ q, q = g := ⟨_, rfl⟩;have cc := cO W' (HO.drop 1);refine cc.mono ?_;clear cc cO;rintro e w1 ⟨he, hn1⟩;obtain rfl := he.none_ rfl;replace HO := HO.then hn1
    clear hn1 he kT mT;(try clear kk);(try simp only [yD] at HO); have kk := HO.kk;unfold fK zT;go_wp2_with (first | ((first | (with_reducible refine bf HO ?_; intro g hg; rw [← hg.out]; clear hg) | (with_reducible refine ah HO ?_) | (refine ay 227 HO ?_)); clear HO; (try clear kk); intro W' HO kk));have nK : gK ≠ gmk := Ne.symm (HO.neDom 6 4 rfl rfl (by omega) rfl);have nI : gI ≠ gmk := Ne.symm (HO.neDom 6 1 rfl rfl (by omega) rfl);have zK := HO.lt 4 rfl;have zI := HO.lt 1 rfl;obtain ⟨o2, hup, hm2⟩ := Mp.put (HO.drew.at 6 rfl) dK Tryz.underlying220 Tryz.underlying22 i.res (uB i (sa, sc)) (i, sa, sc) (fun _ _ _ h => h) (fun _ => rfl);have hup2 : (Instr.mapUpdate 220 (.map (some gmk)) (.int .u32 i.res) (.agg #[.int .u16 i.op, .int .u32 i.ty, .int .u32 i.res, .slice sa i.args.length sc])).run Tryz.prog W'.drew = .ok () (aT W'.drew gmk o2) := hup;have O0 := Only.refl gmk W';(try replace kk := kk.2);refine wp_region_held_drew (S := fun W => (∀ b j, b < W'.heap.size → b ≠ gmk → W.cell? ⟨b, j, none⟩ = W'.cell? ⟨b, j, none⟩) ∧ Only gmk W' W) (by kernel_rfl) (vT gmk W' _ (bz O0)) (fun hHeld => ?_);refine dA 0 ?_;refine dA 1 ?_;refine dA 2 ?_;refine dA 3 ?_;refine dA 4 ?_;refine dA 5 ?_;refine dA 6 ?_;refine wpAnyH_ready (rs := [7]) (by kernel_rfl) (by simp) ?_;refine AllReadyH.cons (by simp only [yG]; rfl) (fun K hK => ?_) AllReadyH.nil;go_simp;refine hK.out _ _ ?_ (fun hHeld => ?_)
    ·(refine vT gmk W' _ ?_; repeat (first | exact O0 | refine bz ?_ | refine fM ?_ | refine fP ?_ | refine fJ ?_ | refine iE ?_ _ | refine eO ?_ hn1.out | refine eG ?_ (by first | assumption | omega)))
    clear hK K
    try simp only [Act.put, yT]
    refine wpAnyH_done (by kernel_rfl) ?_ _;refine gu (HO.drew.map 6 o2 rfl hm2) ?_;clear hup hup2 hm2 O0 HO nK nI zK zI;intro W' HO;simp only [yT] at HO;(try clear kk);go_wp2_with fail;have ht : iC l D (k + 1) = iC l D k := by simp only [iC, hD]
    have hse : jm l D (k + 1) = jm l D k := by simp only [jm, hD]
    exact ⟨⟨k + 1, HLT.out, by go_num, ⟨f, _, v, n, xs, Dm, by rw [ht]; exact HR.out, by omega, by unfold nwL; rw [ht, hse]; exact HO.drop 2⟩⟩, by have := HLT.out; simp [intOf]; omega⟩
   | some d =>
    rw [hD] at cO ho2 ho3;clear hKc;go_wp2_with (first | ((first | (with_reducible refine bf HO ?_; intro g hg; rw [← hg.out]; clear hg) | (with_reducible refine ah HO ?_) | (refine ay 73 HO ?_)); clear HO; (try clear kk); intro W' HO kk));obtain ⟨gI, rfl⟩ : ∃ q, q = g := ⟨_, rfl⟩;have cc := cO W' (HO.drop 1);refine cc.mono ?_;clear cc cO;rintro e w1 ⟨he, hn1⟩;obtain ⟨x, rfl, hx⟩ := he.some_ d rfl;replace HO := HO.deep (P := fun lo W => vR W lo x.pa d.parts) hn1 hx.row;have HX := hid (show NQ x d from ⟨hx.kind, hx.size, hx.depth, hx.sg, hx.aP, hx.part, hx.times, hx.pn⟩);clear hn1 he kT mT hx;(try clear kk);replace HO := HO.pull 2 rfl;simp only [yE] at HO;replace HO := HO.pull 1 rfl;simp only [yE] at HO;replace HO := HO.rows i.res;replace HO := HO.pull 1 rfl;simp only [yE] at HO;(try simp only [yD] at HO); have kk := HO.kk;unfold fK;go_wp2_with (first | ((first | (with_reducible refine bf HO ?_; intro g hg; rw [← hg.out]; clear hg) | (with_reducible refine ah HO ?_) | (refine ay 227 HO ?_)); clear HO; (try clear kk); intro W' HO kk));obtain ⟨gY, rfl⟩ : ∃ q, q = g := ⟨_, rfl⟩;have q3 := ho3.out (by simp)
    have ca := Gp gK gsn (jm l D k) i sa sc W' (HO.cell 4 2 rfl rfl) (HO.at 5 rfl) (Ne.symm (HO.neDom 5 4 rfl rfl (by omega) rfl)) (hsl.out.below cz.lasts HO.below) hal.out q3.1 q3.2.1 q3.2.2.1 q3.2.2.2 (ho2.out (by simp)) (fun hp b' o' e => by
     obtain ⟨b2, o2, e2, hlt2, -⟩ := hsl.out.at_ hp;rw [e2] at e
     cases e
     have := (HO.low _ (List.mem_of_getElem? (i := 5) rfl) gsn rfl).1.elim id False.elim
     omega)
    refine ca.mono ?_;clear ca q3;rintro e W' ⟨rfl, hstep⟩;replace HO := HO.step 5 rfl hstep;clear hstep;(try clear kk);simp only [yT] at HO;(try simp only [yD] at HO); have kk := HO.kk;go_wp2_with fail;have nK : gK ≠ gal := Ne.symm (HO.neDom 8 4 rfl rfl (by omega) rfl);have nI : gI ≠ gal := Ne.symm (HO.neDom 8 1 rfl rfl (by omega) rfl);have nT : gT ≠ gal := Ne.symm (HO.neDom 8 7 rfl rfl (by omega) rfl);have nY : gY ≠ gal := Ne.symm (HO.neDom 8 0 rfl rfl (by omega) rfl);have zK := HO.lt 4 rfl;have zI := HO.lt 1 rfl;have zT := HO.lt 7 rfl;have zY := HO.lt 0 rfl;obtain ⟨o2, hup, hm2⟩ := Mp.put (HO.drew.at 8 rfl) dK Tryz.underlying217 Tryz.underlying22 i.res (fK x) x (fun _ _ _ h => h) (fun _ => rfl);have hup2 : (Instr.mapUpdate 217 (.map (some gal)) (.int .u32 i.res) (.agg #[.int .u8 x.kind, .int .i64 x.size, .int .i64 x.depth, .bool x.sg, .int .u32 x.aP, .int .u32 x.part, .int .i64 x.times, .slice x.pa x.pn x.pc])).run Tryz.prog W'.drew = .ok () (aT W'.drew gal o2) := hup;have O0 := Only.refl gal W';(try replace kk := kk.2);refine wp_region_held_drew (S := fun W => (∀ b j, b < W'.heap.size → b ≠ gal → W.cell? ⟨b, j, none⟩ = W'.cell? ⟨b, j, none⟩) ∧ Only gal W' W) (by kernel_rfl) (vT gal W' _ (bz O0)) (fun hHeld => ?_);refine dA 0 ?_;refine dA 1 ?_;refine dA 2 ?_;refine dA 3 ?_;refine dA 4 ?_;refine dA 5 ?_;refine dA 6 ?_;refine dA 7 ?_;refine dA 8 ?_;refine dA 9 ?_;refine wpAnyH_ready (rs := [10]) (by kernel_rfl) (by simp) ?_;refine AllReadyH.cons (by simp only [yG]; rfl) (fun K hK => ?_) AllReadyH.nil;go_simp;refine hK.out _ _ ?_ (fun hHeld => ?_)
    ·(refine vT gal W' _ ?_; repeat (first | exact O0 | refine bz ?_ | refine fM ?_ | refine fP ?_ | refine fJ ?_ | refine iE ?_ _ | refine eO ?_ hn1.out | refine eG ?_ (by first | assumption | omega)))
    clear hK K
    try simp only [Act.put, yT]
    refine wpAnyH_done (by kernel_rfl) ?_ _;refine gu (HO.drew.map 8 o2 rfl hm2) ?_;clear hup hup2 hm2 O0 HO nK nI nT nY zK zI zT zY;intro W' HO;simp only [yT] at HO;(try clear kk);(try simp only [yD] at HO); have kk := HO.kk;go_wp2_with fail;have zK := HO.lt 4 rfl;have zI := HO.lt 1 rfl;have zT := HO.lt 7 rfl;have HD := HO.drew;have HA := (HO.alloc (.cells #[.int .u32 i.res] 22)).drew;have kA := HA.cells 8 rfl;(try replace kk := kk.2);refine wp_region_held_drew (S := fun W => W.cell? ⟨gK, 0, none⟩ = some (.pointer (some ⟨gT, 0, none⟩)) ∧ W.cell? ⟨gI, 2, none⟩ = some (.int .u32 i.res)) (by kernel_rfl) ⟨HD.cell 4 0 rfl rfl, HD.cell 1 2 rfl rfl⟩ (fun hHeld => ?_);refine dA 0 ?_;refine dA 1 ?_;refine dA 2 ?_;refine dA 3 ?_;refine dA 4 ?_;refine dA 5 ?_;refine dA 6 ?_;refine dA 7 ?_;refine dA 8 ?_;refine dA 9 ?_;refine dA 11 ?_;refine dA 12 ?_;refine wpAnyH_ready (rs := [10, 13]) (by kernel_rfl) (by simp) ?_;refine AllReadyH.cons (by simp only [yG]; rfl) (fun K hK => ?_) (AllReadyH.cons (by simp only [yG]; rfl) (fun K hK => ?_) AllReadyH.nil);go_simp;refine hK.out _ _ ⟨HD.cell 4 0 rfl rfl, HD.cell 1 2 rfl rfl⟩ (fun hHeld => ?_);clear hK K
    try simp only [Act.put, yT]
    refine wpAnyH_ready (rs := [13]) (by kernel_rfl) (by simp) ?_;refine AllReadyH.cons (by simp only [yG]; rfl) (fun K hK => ?_) AllReadyH.nil;go_simp;refine hK.out _ _ ⟨HA.cell 5 0 rfl rfl, HA.cell 2 2 rfl rfl⟩ (fun hHeld => ?_);clear hK K
    try simp only [Act.put, yT]
    rotate_left;go_simp;refine hK.out _ _ ⟨HA.cell 5 0 rfl rfl, HA.cell 2 2 rfl rfl⟩ (fun hHeld => ?_);clear hK K
    try simp only [Act.put, yT]
    refine wpAnyH_ready (rs := [10]) (by kernel_rfl) (by simp) ?_;refine AllReadyH.cons (by simp only [yG]; rfl) (fun K hK => ?_) AllReadyH.nil;go_simp;refine hK.out _ _ ⟨HA.cell 5 0 rfl rfl, HA.cell 2 2 rfl rfl⟩ (fun hHeld => ?_);clear hK K
    try simp only [Act.put, yT]
    all_goals
     clear kA;(try clear kk);refine wpAnyH_ready (rs := [14]) (by kernel_rfl) (by simp) ?_;refine AllReadyH.cons (by simp only [yG]; rfl) (fun K hK => ?_) AllReadyH.nil;refine bY HA gG 4 0 rfl rfl rfl _ _ rfl rfl rfl rfl (by simp [Value.oneCell']) (by omega) (by omega) (Nat.le_refl _) ?_;intro gO cO W2 HP;simp only [yT] at HP;refine hK.out _ _ ⟨HP.cell 5 0 rfl rfl, HP.cell 2 2 rfl rfl⟩ (fun hHeld => ?_);clear hK K
     try simp only [Act.put, yT]
     refine dA 15 ?_;refine dA 16 ?_;have kP := HP.cells 8 rfl;have mP := HP.melt 8 rfl;have zP := HP.lt 8 rfl;have HS := HP.set 8 1 (.slice (some ⟨gO, 0, none⟩) (n + 1) cO) rfl;simp only [yT] at HS;refine wpAnyH_ready (rs := [17]) (by kernel_rfl) (by simp) ?_;refine AllReadyH.cons (by simp only [yG]; rfl) (fun K hK => ?_) AllReadyH.nil;go_simp;refine hK.out _ _ ⟨HS.cell 5 0 rfl rfl, HS.cell 2 2 rfl rfl⟩ (fun hHeld => ?_);clear hK K
     try simp only [Act.put, yT]
     refine wpAnyH_done (by kernel_rfl) ?_ _;refine gu (HS.drop 1) ?_;clear HS kP mP zP HP HA HD HO zK zI zT;intro W' HO;simp only [List.drop_succ_cons, List.drop_zero] at HO;(try simp only [yD] at HO); have kk := HO.kk;go_wp2_with fail;have nK : gK ≠ gmk := Ne.symm (HO.neDom 6 4 rfl rfl (by omega) rfl);have nI : gI ≠ gmk := Ne.symm (HO.neDom 6 1 rfl rfl (by omega) rfl);have zK := HO.lt 4 rfl;have zI := HO.lt 1 rfl;obtain ⟨o2, hup, hm2⟩ := Mp.put (HO.drew.at 6 rfl) dK Tryz.underlying220 Tryz.underlying22 i.res (uB i (sa, sc)) (i, sa, sc) (fun _ _ _ h => h) (fun _ => rfl);have hup2 : (Instr.mapUpdate 220 (.map (some gmk)) (.int .u32 i.res) (.agg #[.int .u16 i.op, .int .u32 i.ty, .int .u32 i.res, .slice sa i.args.length sc])).run Tryz.prog W'.drew = .ok () (aT W'.drew gmk o2) := hup;have O0 := Only.refl gmk W';(try replace kk := kk.2);refine wp_region_held_drew (S := fun W => (∀ b j, b < W'.heap.size → b ≠ gmk → W.cell? ⟨b, j, none⟩ = W'.cell? ⟨b, j, none⟩) ∧ Only gmk W' W) (by kernel_rfl) (vT gmk W' _ (bz O0)) (fun hHeld => ?_);refine dA 0 ?_;refine dA 1 ?_;refine dA 2 ?_;refine dA 3 ?_;refine dA 4 ?_;refine dA 5 ?_;refine dA 6 ?_;refine wpAnyH_ready (rs := [7]) (by kernel_rfl) (by simp) ?_;refine AllReadyH.cons (by simp only [yG]; rfl) (fun K hK => ?_) AllReadyH.nil;go_simp;refine hK.out _ _ ?_ (fun hHeld => ?_)
     ·(refine vT gmk W' _ ?_; repeat (first | exact O0 | refine bz ?_ | refine fM ?_ | refine fP ?_ | refine fJ ?_ | refine iE ?_ _ | refine eO ?_ hn1.out | refine eG ?_ (by first | assumption | omega)))
     clear hK K
     try simp only [Act.put, yT]
     refine wpAnyH_done (by kernel_rfl) ?_ _;refine gu (HO.drew.map 6 o2 rfl hm2) ?_;clear hup hup2 hm2 O0 HO nK nI zK zI;intro W' HO;simp only [yT] at HO;(try clear kk);go_wp2_with fail;have ht : iC l D (k + 1) = dJ (iC l D k) i.res d := by simp only [iC, hD, hgd.out]
     have hse : jm l D (k + 1) = dJ (jm l D k) (keyOf i) 1 := by simp only [jm, hD, hgd.out]
     exact ⟨⟨k + 1, HLT.out, by go_num, ⟨dJ f i.res x, _, _, n + 1, _, _, by rw [ht]; exact HR.out.dJ HX.out i.res, by omega, by unfold nwL; rw [ht, hse]; exact HO.drop 2⟩⟩, by have := HLT.out; simp [intOf]; omega⟩
  ·obtain rfl : k = l.length := by omega
   have i2 : ¬ ((l.length : Nat) : Int) < l.length := by omega
   rw [hL0.out] at HO;(try simp only [yD] at HO); have kk := HO.kk;go_wp2_with (first | ((first | (with_reducible refine ah HO ?_) | (refine ay 39 HO ?_)); clear HO; (try clear kk); intro W' HO kk));refine bodyPost_ret_by (bU rfl _ _ _ 39 #[.int .i64 0, .int .i64 0] _ _ rfl (HO.blk 7 rfl) Tryz.underlying39 rfl aC) rfl ?_;exact ⟨⟨gT, rfl, ⟨gal, f, Dm, ((HO.low _ (List.mem_of_getElem? (i := 5) rfl) gT rfl).1).resolve_right id, ((HO.low _ (List.mem_of_getElem? (i := 6) rfl) gal rfl).1).resolve_right id, fun k hk => ((HO.low _ (List.mem_of_getElem? (i := 0) rfl) k hk).1).resolve_right id, ⟨HO.cell 5 0 rfl rfl, HO.at 6 rfl⟩, HR.out, HO.at 0 rfl⟩⟩, HO.below⟩
end Go.Proofs.YtlkolghiknbbfaaGreatDoor
