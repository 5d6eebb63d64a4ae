/- Machine: instructions, copied. -/
import Derived.Test.YtlkolghiknbbfaaGreatDoorMd
import Derived.Test.YtlkolghiknbbfaaGreatDoorBj
set_option linter.unusedVariables false
set_option linter.unusedSimpArgs false
set_option maxRecDepth 100000
set_option maxHeartbeats 4000000
namespace Go.Proofs.YtlkolghiknbbfaaGreatDoor
open Go.RowKit
theorem nS {P : Program} {w : World} {ops : Array Oper} {rest : List Oper} {o : Oper} {a : Act} {Q : Exit → Act → World → Prop} (hgd : o.guard = none) (s x : Operand) (t : TypeId)
  (ho : o.op = .call { callee := .builtin .append, args := #[s, x], argTypes := #[t, t] })
  (e : TypeId) (i : TypeInfo) (ht : P.underlying t = some (.slice e)) (hi : P.info? e = some i) (g c : Nat) (d : Addr)
  (hs : a.eval s = .slice (some ⟨g, 0, none⟩) 0 0) (hx : a.eval x = .slice (some d) 0 c)
  (h : wpList P ops Q rest (a.put o.dst (.slice (some ⟨g, 0, none⟩) 0 0)) w) : wpList P ops Q (o :: rest) a w := by
 refine wpList_plain hgd fun K hK => ?_
 have hrun : (Builtin.append_ #[t, t] o.type #[.slice (some ⟨g, 0, none⟩) 0 0, .slice (some d) 0 c]).run P w = .ok (.slice (some ⟨g, 0, none⟩) 0 0) w := by
  simp [Builtin.append_, run_underlying ht, sizeOf, typeInfo, hi, Builtin.lenOf, Builtin.firstCells, storeCells, loadCells, loadCellsFrom]
 unfold Oper.wp;simp [execOp, ho, resolve, invoke, builtin, hs, hx, hrun, Result.andThen];exact hK _ _ h
theorem yo (a : Option Addr) (c : Nat) (w : World) :
  Calls Tryz.prog 112 #[.slice a 0 c] w fun e w' => (∃ a' c', e = .returned (.slice a' 0 c')) ∧ Bl w w' := by
 have HO := Own.nil w
 cases a with
 | none =>
  have he : ∀ w, (binOp .eql 71 (.slice none 0 c) (.slice none 0 0)).run Tryz.prog w = .ok (.bool true) w := fun _ => by kernel_rfl
  go_enter Tryz.func112, Tryz.ntmps112;go_wp2_with fail;go_ret;exact ⟨⟨_, _, rfl⟩, HO.below⟩
 | some d =>
  have he : ∀ w, (binOp .eql 71 (.slice (some d) 0 c) (.slice none 0 0)).run Tryz.prog w = .ok (.bool false) w := fun _ => by kernel_rfl
  go_enter Tryz.func112, Tryz.ntmps112;obtain ⟨y, z, hq, hz0, hz1, hz2, hz3⟩ := Dk.info;go_wp2_with (first | ((with_reducible refine aM HO ?_); clear HO; (try clear kk); intro g W' hg HO; rw [← hg.out]; clear hg; (try simp only [yT] at HO); have kk := HO.kk) | ((with_reducible refine aA ?_); refine nS rfl _ _ _ rfl _ _ Dk.slice hq _ _ _ rfl rfl ?_));go_ret;exact ⟨⟨_, _, rfl⟩, HO.below⟩
theorem Cs (i : In) (a : Option Addr) (c : Nat) (hn : i.args.length ≤ 1048576) (w : World) (h : Sl 3 cz w a i.args) :
  Calls Tryz.prog 112 #[.slice a i.args.length c] w fun e w' => ∃ a' c' D, e = .returned (.slice a' i.args.length c') ∧ Own aK w [fD D [(i, a', c')]] w' := by
 by_cases h0 : 0 < i.args.length
 ·obtain ⟨b, o, rfl, hlt, hc⟩ := h.at_ h0
  refine (DR b o c i.args h0 hn w h).mono ?_;rintro e w' ⟨g, c', rfl, HO⟩;refine ⟨_, _, _, rfl, HO.recast 0 (A' := fD _ [(i, some ⟨g, 0, none⟩, c')]) rfl (fun k hk => hk) (fun x hx _ => ?_)⟩;rw [List.mem_singleton.1 hx];exact ⟨g, rfl, rfl, fun j v hv => HO.rowcell 0 j rfl hv⟩
 ·have e0 : i.args.length = 0 := by omega
  have := yo a c w;rw [e0];refine this.mono ?_;rintro e w' ⟨⟨a', c', rfl⟩, hb⟩
  exact ⟨a', c', _, rfl, ((Own.nil w).then hb).free (A := fD (fun _ => False) [(i, a', c')]) (fun k hk => hk) (fun x hx hx0 => by
   rw [List.mem_singleton.1 hx] at hx0
   exact absurd hx0 h0)⟩
theorem vX (p q : List Pr) : dI (p ++ q) = dI p ++ dI q := by simp [dI]
theorem mh (p : List Pr) : (dI p).length = p.length * 4 := by
 induction p with
 | nil => rfl
 | cons a p ih => unfold dI at ih ⊢; simp only [List.flatMap_cons, List.length_append, ih, List.length_cons]; show 4 + _ = _; omega
theorem Fb (p q : List Pr) (x : Pr) (a : Option Addr) (c : Nat) : (dI (p ++ x :: q)).set (p.length * 4 + 3) (.slice a x.1.args.length c) = dI ((p ++ [(x.1, a, c)]) ++ q) := by
 rw [vX, List.set_append, if_neg (by rw [mh]; omega), mh, show p.length * 4 + 3 - p.length * 4 = 3 by omega, List.append_assoc, vX];rfl
def vO (l : List In) (sv : Nat → Option Addr × Nat) : List Pr := (List.range l.length).map fun k => (l.getD k ai, sv k)
theorem mD (l : List In) (sv : Nat → Option Addr × Nat) : (vO l sv).length = l.length := by simp [vO]
theorem Er (l : List In) (sv : Nat → Option Addr × Nat) (k : Nat) (hk : k < l.length) : (vO l sv)[k]'(by rw [mD]; exact hk) = (l[k], sv k) := by
 simp only [vO, List.getElem_map, List.getElem_range, List.getD_eq_getElem?_getD, List.getElem?_eq_getElem hk]; rfl
theorem Kt (l : List In) (sv : Nat → Option Addr × Nat) (k : Nat) (hk : k < l.length) : (vO l sv).drop k = (l[k], sv k) :: (vO l sv).drop (k + 1) := by
 rw [List.drop_eq_getElem_cons (by rw [mD]; exact hk), Er l sv k hk]
theorem Kl : El 32 73 4 40 := El.of Tryz.underlying32 (z := .agg #[.int .u16 0, .int .u32 0, .int .u32 0, .slice none 0 0]) (by kernel_rfl) rfl (by omega)
theorem KG {w : World} {b o : Nat} {l : List In} {sv : Nat → Option Addr × Nat} (hM : Ms w b o l sv) (j : Nat) (u : Value) (h : (dI (vO l sv))[j]? = some u) : w.cell? ⟨b, o + j, none⟩ = some u := by
 have hj : j < l.length * 4 := by
  have := (List.getElem?_eq_some_iff.1 h).1
  rwa [mh, mD] at this
 have hk : j / 4 < l.length := by omega
 obtain ⟨f0, f1, f2, f3⟩ := oZ (vO l sv) (j / 4) (by rw [mD]; exact hk);rw [Er l sv _ hk] at f0 f1 f2 f3;rcases (show j = j / 4 * 4 ∨ j = j / 4 * 4 + 1 ∨ j = j / 4 * 4 + 2 ∨ j = j / 4 * 4 + 3 by omega) with e | e | e | e
 ·rw [e] at h ⊢; rw [f0] at h; exact (hM.op _ hk).trans h
 ·rw [e] at h ⊢; rw [f1] at h; exact (hM.ty _ hk).trans h
 ·rw [e] at h ⊢; rw [f2] at h; exact (hM.res _ hk).trans h
 ·rw [e] at h ⊢; rw [f3] at h; exact (hM.args _ hk).trans h
theorem CE (b o c : Nat) (l : List In) (sv : Nat → Option Addr × Nat) (h0 : 0 < l.length) (hn : l.length ≤ 1048576) (w : World) (hM : Ms w b o l sv) :
  Calls Tryz.prog 111 #[.slice (some ⟨b, o, none⟩) l.length c] w fun e w' => ∃ g' c', e = .returned (.slice (some ⟨g', 0, none⟩) l.length c') ∧ Own aK w [bM 0 73 4 (.slice (some ⟨g', 0, none⟩) l.length c') l.length (dI (vO l sv))] w' := by
 have HO := Own.nil w;have he : ∀ w, (binOp .eql 32 (.slice (some ⟨b, o, none⟩) l.length c) (.slice none 0 0)).run Tryz.prog w = .ok (.bool false) w := fun _ => by kernel_rfl
 have hc : ∀ W, Bl w W → ∀ j u, (dI (vO l sv))[j]? = some u → W.cell? ⟨b, o + j, none⟩ = some u := fun W hb => KG (hM.below hb)
 have h1 : ∀ u ∈ dI (vO l sv), u.oneCell' = true := fun u hu => by
  obtain ⟨x, -, hx⟩ := List.mem_flatMap.1 hu;simp only [List.mem_cons, List.not_mem_nil, or_false] at hx;rcases hx with rfl | rfl | rfl | rfl <;> simp [Value.oneCell']
 have hl : (dI (vO l sv)).length = l.length * 4 := by rw [mh, mD]
 clear hM;go_enter Tryz.func111, Tryz.ntmps111;go_wp2_with (first | ((with_reducible refine aM HO ?_); clear HO; (try clear kk); intro g W' hg HO; rw [← hg.out]; clear hg; (try simp only [yT] at HO); have kk := HO.kk) | ((with_reducible refine aA ?_); replace HO := HO.empty 4 (HO.le 0 rfl); refine xN HO Kl 0 rfl b o l.length c (dI (vO l sv)) rfl _ _ rfl rfl rfl hl (hc _ HO.below) h1 h0 (by omega) (by omega) (Nat.le_refl _) ?_; clear HO; (try clear kk); intro g1 c1 W' HO; (try simp only [yT] at HO)));go_ret;simp only [Nat.zero_add, List.nil_append] at HO ⊢;exact ⟨_, _, rfl, HO.base0⟩
structure CpI (l : List In) (w : World) (e : Ending) (w' : World) : Prop where
 at_ : ∃ g c p D, e = .returned (.slice (some ⟨g, 0, none⟩) l.length c) ∧ p.map Prod.fst = l ∧ Own aK w [bM 0 73 4 (.slice (some ⟨g, 0, none⟩) l.length c) l.length (dI p), fD D p] w'
theorem yC (b o c : Nat) (l : List In) (sv : Nat → Option Addr × Nat) (h0 : 0 < l.length) (hn : l.length ≤ 2000) (hf : ∀ k (hk : k < l.length), ui l[k]) (w : World) (hM : Ms w b o l sv) :
  Calls Tryz.prog 76 #[.slice (some ⟨b, o, none⟩) l.length c] w fun e w' => CpI l w e w' := by
 have HO := Own.nil w;have cI := CE b o c l sv h0 (by omega) w hM;have HM := hid hM;have HF := hid hf;have HP := hid h0;clear hM hf h0;go_enter Tryz.func76, Tryz.ntmps76;go_wp2_with (go_at_call 111; (with_reducible refine cI.mono ?_); rintro e w1 ⟨g, c1, rfl, hn1⟩; replace HO := HO.app hn1; clear hn1; (try simp only [List.cons_append, List.nil_append] at HO); (try clear kk); (try simp only [yD] at HO); have kk := HO.kk);(try clear kk);replace HO := hid ((HO.free (A := fD (fun _ => False) []) (fun k hk => hk) (fun x h => by cases h)).perm (List.Perm.swap _ _ _));clear cI;go_loopw [8] (fun x8 wv => ∃ k : Nat, k ≤ l.length ∧ x8 = .int .i64 k ∧ ∃ p D, p.map Prod.fst = l.take k ∧ Own aK w [bM 0 73 4 (.slice (some ⟨g, 0, none⟩) l.length c1) l.length (dI (p ++ (vO l sv).drop k)), fD D p] wv) (fun x _ => l.length - (intOf x).toNat)
 case atStart => exact ⟨0, by omega, rfl, [], _, rfl, HO.out⟩
 case round =>
  obtain ⟨k, hk, rfl, p, D, hp, HO2⟩ := hrel;clear HO;have HO := HO2;clear HO2;by_cases hkl : k < l.length
  ·have hpl : p.length = k := by
    have := congrArg List.length hp;rw [List.length_map, List.length_take] at this;omega
   obtain ⟨x, hx⟩ : ∃ x, Hid (x = l[k]) := ⟨_, hid rfl⟩;rw [show (vO l sv).drop k = (x, sv k) :: (vO l sv).drop (k + 1) by rw [hx.out]; exact Kt l sv k hkl] at HO;have hxl : x.args.length ≤ 1048576 := by rw [hx.out]; exact Nat.le_trans (HF.out k hkl).len (by omega)
   have hxs : ∀ W, Bl w W → Sl 3 cz W (sv k).1 x.args := fun W hb => by rw [hx.out]; exact (HM.out.below hb).sl k hkl
   have cC : ∀ W, Bl w W → _ := fun W hb => Cs x (sv k).1 (sv k).2 hxl W (hxs W hb)
   clear hxl hxs;have HK := hid hkl;generalize sv k = s at cC HO;obtain ⟨sa, sc⟩ := s;simp only at cC HO
   have hfl : Hid ((dI (p ++ (x, sa, sc) :: (vO l sv).drop (k + 1)))[k * 4 + 3]? = some (.slice sa x.args.length sc)) := hid (by
    have := (oZ (p ++ (x, sa, sc) :: (vO l sv).drop (k + 1)) k (by simp; omega)).2.2.2
    simpa only [List.getElem_append_right (show p.length ≤ k by omega), hpl, Nat.sub_self, List.getElem_cons_zero] using this)
   have hput := Fb p ((vO l sv).drop (k + 1)) (x, sa, sc);rw [hpl] at hput;replace hput := hid hput
   have hp2 : Hid (∀ a c, (p ++ [(x, a, c)]).map Prod.fst = l.take (k + 1)) := hid (fun a c => by
    rw [List.map_append, hp, List.take_succ_eq_append_getElem hkl, hx.out]; rfl)
   have i4 : (k : Int) < l.length := by omega
   have y2 := HO.rowcell 0 (k * 4 + 3) rfl hfl.out;have yz := block_lt_of_cell y2;have yf := World.ownsRow.frozenAt (HO.at 0 rfl : World.ownsRow _ _ _ 4 (.slice (some ⟨g, 0, none⟩) l.length c1) l.length _) (k * 4 + 3);clear hp hpl hx hkl hk;obtain ⟨q, hq⟩ : ∃ q, Hid (q = (vO l sv).drop (k + 1)) := ⟨_, hid rfl⟩;rw [← hq.out] at HO hput hfl;(try simp only [yD] at HO); have kk := HO.kk;go_wp2_with (first | (go_at_call 112; (with_reducible refine (cC _ HO.below).mono ?_); rintro e w1 ⟨a2, c2, D2, rfl, hn1⟩; replace HO := HO.app hn1; clear hn1 y2 yf yz; (try simp only [List.cons_append, List.nil_append] at HO); (try clear kk); have y2 := HO.rowcell 1 (k * 4 + 3) rfl hfl.out; have yz := block_lt_of_cell y2; have yf := World.ownsRow.frozenAt (HO.at 1 rfl : World.ownsRow _ _ _ 4 (.slice (some ⟨g, 0, none⟩) l.length c1) l.length _) (k * 4 + 3); (try simp only [yD] at HO); have kk := HO.kk) | ((first | refine kM 1 HO rfl ?_ | refine jJ 1 HO rfl ?_); intro W9 HO9; clear HO; (try clear kk); (try clear y2 yf yz); have HO := HO9; clear HO9; (try simp only [yT] at HO); (try simp only [yD] at HO); have kk := HO.kk));(try clear kk);rw [show (Value.slice a2 x.args.length c2) = .slice a2 (x, sa, sc).1.args.length c2 from rfl, hput.out] at HO;replace HO := HO.pull 1 rfl;simp only [yE] at HO;replace HO := HO.pull 2 rfl;simp only [yE] at HO;replace HO := HO.pull 2 rfl;simp only [yE] at HO;have hA := HO.at 0 rfl;have hB := HO.at 1 rfl
   have H2 := HO.join.recast 0 (A' := fD (fun j => D2 j ∨ D j) (p ++ [(x, a2, c2)])) rfl (fun j hj => hj) (fun y hy h0 => by
    rcases List.mem_append.1 hy with hy | hy
    ·obtain ⟨b1, e, hb, hcc⟩ := hB y hy h0
     exact ⟨b1, e, .inr hb, hcc⟩
    ·obtain ⟨b1, e, hb, hcc⟩ := hA y hy h0
     exact ⟨b1, e, .inl hb, hcc⟩)
   replace H2 := H2.perm (List.Perm.swap _ _ _);exact ⟨⟨k + 1, HK.out, by go_num, _, _, hp2.out a2 c2, by rw [← hq.out]; exact H2⟩, by have := HK.out; simp [intOf]; omega⟩
  ·obtain rfl : k = l.length := by omega
   have i4 : ¬ (((l.length : Nat) : Int) < l.length) := by omega
   rw [List.drop_of_length_le (by rw [mD]; exact Nat.le_refl _), List.append_nil] at HO;rw [List.take_length] at hp;have hp2 := hid hp;clear hp hk hkl;go_wp2_with fail;go_ret;exact ⟨⟨g, c1, p, D, rfl, hp2.out, HO⟩⟩
end Go.Proofs.YtlkolghiknbbfaaGreatDoor
namespace Go.Proofs.YtlkolghiknbbfaaGreatDoor
open Go.RowKit Go.MapKept
theorem oV {P : Program} {ops : Array Oper} {rest : List Oper} {a : Act} {w : World} {Q : Exit → Act → World → Prop} {d : Option Tmp} {mt : TypeId} {m k v : Operand} {ty : TypeId} {ps : String} {af : Array Edge} {gd : Option (Nat × Bool)} (h : wpList P ops Q ({ dst := d, op := .mapUpdate mt m k v, type := ty, pos := ps, after := af, guard := gd } :: rest) a w) : wpList P ops Q ({ dst := d, op := .mapUpdate mt m k v, type := ty, pos := ps, after := af, guard := gd } :: rest) a w := h
theorem pg {X : Nat → Prop} {w W : World} {L : List As} {ops : Array Oper} {rest : List Oper} {o : Oper} {a : Act} {Q : Exit → Act → World → Prop} {g : Nat} {α : Type} {enc : α → Value} {f : Nat → Option α} (h : Own X w L W) (i : Nat) (hi : L[i]? = some (iO (.int .u32) bR enc g f)) (hgd : o.guard = none) (mt kt et : TypeId) (hmt : Tryz.prog.underlying mt = some (.map kt et)) (hkt : Tryz.prog.underlying kt = some (.int .u32)) (m kk vv : Operand) (ho : o.op = .mapUpdate mt m kk vv) (k : Nat) (v : α) (hm : a.eval m = .map (some g)) (hk : a.eval kk = .int .u32 k) (hv : a.eval vv = enc v) (hd : o.dst = none)
  (K : ∀ W', Own X w (L.set i (iO (.int .u32) bR enc g (dJ f k v))) W' → wpList Tryz.prog ops Q rest a W') : wpList Tryz.prog ops Q (o :: rest) a W := by
 obtain ⟨q, hup, hm2⟩ := Mp.put (h.at i hi) dK hmt hkt k (enc v) v (fun _ _ _ h => h) (fun _ => rfl);have hup2 : (Instr.mapUpdate mt (.map (some g)) (.int .u32 k) (enc v)).run Tryz.prog W = .ok () (aT W g q) := hup;have H2 := h.map i q hi hm2;refine wpList_plain hgd fun K2 hK => ?_
 unfold Oper.wp;simp [execOp, ho, hm, hk, hv, hup2, Result.andThen];exact hK _ _ (by rw [hd]; exact K _ H2)
theorem qX {lo P T : Nat} {tab : Nat → Option dU} {vs : Nat → Option (Nat × Nat × Nat)} {w : World} (h : iI lo P T tab vs w) (v c ty n : Nat) (hv : vs v = some (c, ty, n)) (hn : n ≤ 4096) :
  Calls Tryz.prog 78 #[.pointer (some ⟨P, 0, none⟩), .int .u32 v] w fun e w' => (∃ g, e = .returned (.tuple #[.int .u32 c, .int .u32 ty, .slice (some ⟨g, 0, none⟩) n n, .bool true]) ∧ bW g n w.heap.size w') ∧ Bl w w' := by
 obtain ⟨mv, fv, Dm, h1, h2, h3, h4, h5, h6, h7, h8, h9, h10⟩ := h.at_;have hq := h8 v;rw [hv] at hq
 cases hf : fv v with
 | none => rw [hf] at hq; cases hq
 | some x =>
  rw [hf] at hq;have hw := h9 v x hf;injection hq with hq
  injection hq with q1 q2
  injection q2 with q2 q3
  subst q1 q2 q3;exact jZ P mv v fv x w h5 h7 hf ⟨Nat.zero_le _, hw.2⟩ hn (h10 _ hw.1)
def kW (id : Nat) : Option (Nat × Nat) := if id = 9 then some (5, 4) else none
def ng : List Nat := [10, 11, 12, 13]
section
variable {n : Nat} {f : Nat → Ln}
theorem yc : ∀ k, k ≤ 23 → pU (aj n f) fG 6 k = pU ax fG 6 k
 | 0, _ => rfl
 | k + 1, h => by simp only [pU, yc k (by omega), bK (show k < 23 by omega)]
theorem Jd : pU (aj n f) fG (tS 7) (tS 8) = kW := (yc 19 (by omega)).trans rfl
theorem Br : ∀ k, k ≤ 23 → kG (aj n f) vS k = kG ax vS k
 | 0, _ => rfl
 | k + 1, h => by simp only [kG, Br k (by omega), bK (show k < 23 by omega)]
theorem JM : kG (aj n f) vS (tS 8) = ng := (Br 19 (by omega)).trans rfl
theorem LA (gen b o cap : Nat) (sv : Nat → Option Addr × Nat) (w : World) (hM : Ms w b o (aj n f) sv) (hs : bu n f) :
  Calls Tryz.prog 62 #[.agg #[.int .u32 gen, .int .u32 (30 + n : Nat), .slice (some ⟨b, o, none⟩) (aj n f).length cap]] w fun r w' => (∃ P T, r = .returned (.tuple #[.pointer (some ⟨P, 0, none⟩), .agg #[.int .i64 0, .int .i64 0]]) ∧ jk w.heap.size P T fG iQ kW ng w') ∧ Bl w w' := by
 have e : iC (aj n f) dS (aj n f).length = fG := vP (by rw [ak]; omega);have := vY gen (30 + n) b o cap (aj n f) sv tS (25 + n) dS vS w hM (eD hs) (jb hs) (kV hs) (pO hs) (by rw [e]; exact vV);rw [e, Bt, Jd, JM] at this;exact this
end
theorem He (B cl : Nat) (i1 i2 i3 i4 : Value) (fid : Nat) (w : World) (hB : w.cell? ⟨B, 2, none⟩ = some (.int .u32 fid)) :
  Qc 80 #[.agg #[.int .u32 fid, i1, i2, i3, i4], .pointer (some ⟨B, 0, none⟩)] w (.bool true) := by
 have HO := Own.nil w;have zB := block_lt_of_cell hB;go_enter Tryz.func80, Tryz.ntmps80;go_wp2_with (first | ((first | ((with_reducible refine aB HO ?_); intro g hg; rw [← hg.out]; clear hg) | (with_reducible refine ah HO ?_)); clear HO; (try clear kk); intro W' HO kk));go_ret;exact ⟨rfl, HO.below⟩
theorem zH (B g cg b1 c1 fid : Nat) (y en : Int) (w : World) (hB : w.cell? ⟨B, 2, none⟩ = some (.int .u32 fid)) (hg : kN g b1 c1 fid y en w) :
  Qc 79 #[.slice (some ⟨g, 0, none⟩) 1 cg, .func (.func 80) #[] #[.pointer (some ⟨B, 0, none⟩)]] w (.int .i64 0) := by
 have cS := He B 0 (.int .i64 y) (.slice none 0 0) (.slice (some ⟨b1, 0, none⟩) 1 c1) (.int .i64 en) fid w hB;obtain ⟨zg, g0, g1, g2, g3, g4⟩ := hg;have HO := Own.nil w;go_enter Tryz.func79, Tryz.ntmps79;go_wp2_with fail;refine wp_loop_rounds 1 ?_;rw [rounds_succ];go_wp2_with (first | ((first | (with_reducible refine bf HO ?_; intro g hg; rw [← hg.out]; clear hg) | (with_reducible refine ah HO ?_)); clear HO; (try clear kk); intro W' HO kk) | (go_at_call 80; (with_reducible refine cS.mono ?_); rintro e w1 ⟨rfl, hn⟩; replace HO := HO.then hn; clear hn));go_ret;exact ⟨rfl, HO.below⟩
theorem JI {F : Nat → Nat → Nat → List Pr → (Nat → Prop) → World → Prop} {w : World} {I : Nat → Nat → Nat → List Pr → Prop} {LH : Nat → Nat → Nat → List Pr → (Nat → Prop) → List As} {g : Prop} (h2 : (∀ H a c p D W, I H a c p → Own aK w (LH H a c p D) W → F H a c p D W) → g) (h1 : ∀ H a c p D W, I H a c p → Own aK w (LH H a c p D) W → F H a c p D W) : g := h2 h1
structure LdS (gF gM P T gf b2 cb n b o cap : Nat) (f0 f1 f2 f3 f4 : Value) (ln : Nat) (W : World) : Prop where
 f0 : W.cell? ⟨gF, 0, none⟩ = some f0
 f1 : W.cell? ⟨gF, 1, none⟩ = some f1
 f2 : W.cell? ⟨gF, 2, none⟩ = some f2
 f3 : W.cell? ⟨gF, 3, none⟩ = some f3
 f4 : W.cell? ⟨gF, 4, none⟩ = some f4
 m : W.cell? ⟨gM, 2, none⟩ = some (.slice (some ⟨b, o, none⟩) ln cap)
 pq : ∃ lo, jk lo P T fG iQ kW ng W
 fq : ∃ lo, Ej gf b2 cb 20 21 (19 : Nat) (20 : Nat) (25 + n + 1 : Nat) lo W
theorem LdS.p0 {gF gM P T gf b2 cb n b o cap ln : Nat} {f0 f1 f2 f3 f4 : Value} {W : World} (h : LdS gF gM P T gf b2 cb n b o cap f0 f1 f2 f3 f4 ln W) : W.cell? ⟨P, 0, none⟩ = some (.pointer (some ⟨T, 0, none⟩)) := by
 obtain ⟨lo, h⟩ := h.pq;obtain ⟨mv, fv, Dm, -, -, -, h4, -⟩ := h.pl.at_;exact h4
structure BH (gP gC mr id : Nat) (rm : Nat → Option Nat) (W : World) : Prop where
 p0 : W.cell? ⟨gP, 0, none⟩ = some (.int .u32 id)
 c10 : W.cell? ⟨gC, 10, none⟩ = some (.map (some mr))
 mp : Mp (.int .u32) bR (fun _ v x => v = vW x) W mr rm
theorem BH.below {gP gC mr id : Nat} {rm : Nat → Option Nat} {w W : World} (h : BH gP gC mr id rm w) (hb : Bl w W) : BH gP gC mr id rm W :=
 ⟨ae h.p0 (block_lt_of_cell h.p0) hb, ae h.c10 (block_lt_of_cell h.c10) hb, h.mp.other (hb.block mr h.mp.lt) (fun _ _ e => e)⟩
theorem BH.hit {gP gC mr id : Nat} {rm : Nat → Option Nat} {w : World} (h : BH gP gC mr id rm w) {k : Nat} (e : rm id = some k) : (Instr.lookup 126 (.map (some mr)) (.int .u32 id) false).run Tryz.prog w = .ok (.int .i64 k) w := by
 obtain ⟨v, hv, hq⟩ := h.mp.hit dK Tryz.underlying126 Tryz.underlying22 (k := id) (x := k) e;subst hv;exact hq false
def wu : Nat → Option Nat := dJ (dJ (dJ (dJ (fun _ => none) 10 0) 11 1) 12 2) 13 3
theorem Bw {F : Nat → World → Prop} {w : World} {LH : Nat → List As} {g : Prop} (h2 : (∀ H W, Own aK w (LH H) W → F H W) → g) (h1 : ∀ H W, Own aK w (LH H) W → F H W) : g := h2 h1
structure EC (gC gi ci gf cg b2 cb P T mr gs cs gp cp t0 t1 t2 t3 gO cO n : Nat) (f : Nat → Ln) (W : World) : Prop where
 c0 : W.cell? ⟨gC, 0, none⟩ = some (.slice (some ⟨gi, 0, none⟩) (27 + n) ci)
 c1 : W.cell? ⟨gC, 1, none⟩ = some (.slice (some ⟨gf, 0, none⟩) 1 cg)
 c2 : W.cell? ⟨gC, 2, none⟩ = some (.pointer (some ⟨P, 0, none⟩))
 c3 : W.cell? ⟨gC, 3, none⟩ = some (.pointer (some ⟨T, 0, none⟩))
 c8 : W.cell? ⟨gC, 8, none⟩ = some (.slice (some ⟨gO, 0, none⟩) 2 cO)
 c9 : W.cell? ⟨gC, 9, none⟩ = some (.int .i64 0)
 c10 : W.cell? ⟨gC, 10, none⟩ = some (.map (some mr))
 c11 : W.cell? ⟨gC, 11, none⟩ = some (.slice (some ⟨gs, 0, none⟩) 4 cs)
 c12 : W.cell? ⟨gC, 12, none⟩ = some (.slice (some ⟨gp, 0, none⟩) 2 cp)
 ms : ∃ sv, Ms W gi 0 (aj n f) sv
 fq : ∃ lo, Ej gf b2 cb 20 21 (19 : Nat) (20 : Nat) (25 + n + 1 : Nat) lo W
 pq : ∃ lo, jk lo P T fG iQ kW ng W
 rm : Mp (.int .u32) bR (fun _ v x => v = vW x) W mr wu
 s0 : W.cell? ⟨gs, 0, none⟩ = some (.slice (some ⟨t0, 0, none⟩) 1 1)
 s1 : W.cell? ⟨gs, 1, none⟩ = some (.slice (some ⟨t1, 0, none⟩) 1 1)
 s2 : W.cell? ⟨gs, 2, none⟩ = some (.slice (some ⟨t2, 0, none⟩) 1 1)
 s3 : W.cell? ⟨gs, 3, none⟩ = some (.slice (some ⟨t3, 0, none⟩) 4 4)
 p0 : W.cell? ⟨gp, 0, none⟩ = some (.int .i64 0)
 p1 : W.cell? ⟨gp, 1, none⟩ = some (.int .i64 1)
 w2 : ∀ j, W.cell? ⟨t2, j, none⟩ = (wz 1)[j]?
 w3 : ∀ j, W.cell? ⟨t3, j, none⟩ = (wz 4)[j]?
theorem qp {t n : Nat} {w W : World} (hn : 0 < n) (h : ∀ j, w.cell? ⟨t, j, none⟩ = (wz n)[j]?) (hb : Bl w W) (j : Nat) : W.cell? ⟨t, j, none⟩ = (wz n)[j]? := by
 have h0 := h 0;rw [Array.getElem?_eq_getElem (by rw [iZ]; exact hn)] at h0;exact (World.cell?_of_block (a := ⟨t, j, none⟩) (hb.block t (block_lt_of_cell h0))).trans (h j)
theorem EC.below {gC gi ci gf cg b2 cb P T mr gs cs gp cp t0 t1 t2 t3 gO cO n : Nat} {f : Nat → Ln} {w W : World} (h : EC gC gi ci gf cg b2 cb P T mr gs cs gp cp t0 t1 t2 t3 gO cO n f w) (hb : Bl w W) : EC gC gi ci gf cg b2 cb P T mr gs cs gp cp t0 t1 t2 t3 gO cO n f W :=
 have k : ∀ {g o : Nat} {v : Value}, w.cell? ⟨g, o, none⟩ = some v → W.cell? ⟨g, o, none⟩ = some v := fun h => ae h (block_lt_of_cell h) hb
 ⟨k h.c0, k h.c1, k h.c2, k h.c3, k h.c8, k h.c9, k h.c10, k h.c11, k h.c12, h.ms.imp fun sv q => q.below hb, h.fq.imp fun lo q => jo.below (fE gf b2 cb 20 21 _ _ _) q hb, h.pq.imp fun lo q => q.below hb, h.rm.other (hb.block mr h.rm.lt) (fun _ _ e => e), k h.s0, k h.s1, k h.s2, k h.s3, k h.p0, k h.p1, qp (by decide) h.w2 hb, qp (by decide) h.w3 hb⟩
structure LdE (n : Nat) (f : Nat → Ln) (gO cO : Nat) (w : World) (e : Ending) (w' : World) : Prop where
 at_ : ∃ gC gi ci gf cg b2 cb P T mr gs cs gp cp t0 t1 t2 t3, e = .returned (.pointer (some ⟨gC, 0, none⟩)) ∧ EC gC gi ci gf cg b2 cb P T mr gs cs gp cp t0 t1 t2 t3 gO cO n f w'
 below : Bl w w'
theorem EH (gen b o cap n : Nat) (f : Nat → Ln) (sv : Nat → Option Addr × Nat) (nm : ByteArray) (md gI cI gO cO : Nat) (w : World) (hM : Ms w b o (aj n f) sv) (hs : bu n f) (x y : jO) (hx : x.v = 10) (hy : y.v = 11) (p0 : dN w gI 0 x) (p1 : dN w gI 6 y) :
  Calls Tryz.prog 28 #[.agg #[.int .u32 gen, .int .u32 (30 + n : Nat), .slice (some ⟨b, o, none⟩) (aj n f).length cap], .agg #[.string nm, .int .u32 md, .int .u32 (20 : Nat), .slice (some ⟨gI, 0, none⟩) 2 cI, .slice (some ⟨gO, 0, none⟩) 2 cO]] w fun e w' => LdE n f gO cO w e w' := by
 have hlen : (aj n f).length ≤ 2000 := by rw [ak]; have := hs.small; omega
 have hpos : 0 < (aj n f).length := by rw [ak]; omega
 have hfit : ∀ j (hj : j < (aj n f).length), ui (aj n f)[j] := fun j hj => by rw [aF]; exact Em hs (by rw [ak] at hj; exact hj)
 have cC : ∀ W, Bl w W → _ := fun W hb => lW gen (30 + n) (some ⟨b, o, none⟩) cap (aj n f) tS (25 + n) W (hM.below hb).back (eD hs) (jb hs)
 have e20 : ((aj n f).getD (tS 8) ai).res = 20 := by rw [show tS 8 = 19 from rfl, bK (by omega)]; rfl
 have e21 : ((aj n f).getD (tS 8 + 1) ai).res = 21 := by rw [show tS 8 + 1 = 20 from rfl, bK (by omega)]; rfl
 rw [e20, e21] at cC;clear e20 e21;have cN : ∀ W, Bl w W → _ := fun W hb => LA gen b o cap sv W (hM.below hb) hs
 have cIn : ∀ W, Bl w W → _ := fun W hb => yC b o cap (aj n f) sv hpos hlen hfit W (hM.below hb)
 have HP := hid hpos;have HF := hid hfit;have P0 := hid p0;have P1 := hid p1;clear hpos hfit p0 p1 hM hs;obtain ⟨ln, hln⟩ : ∃ ln, Hid (ln = (aj n f).length) := ⟨_, hid rfl⟩;obtain ⟨bd, hbd⟩ : ∃ bd : Int, Hid (bd = (30 + n : Nat)) := ⟨_, hid rfl⟩;rw [← hbd.out] at cC cN ⊢;rw [← hln.out] at cC cN ⊢;rw [← hln.out] at hlen;have HO := Own.nil w;have hmm := @run_makeMap Tryz.prog;go_enter Tryz.func28, Tryz.ntmps28;go_wp2_with (first | ((first | ((with_reducible refine aB HO ?_); intro g hg; rw [← hg.out]; clear hg) | (with_reducible refine ah HO ?_) | (refine ay 39 HO ?_)); clear HO; (try clear kk); intro W' HO kk) | (refine bG 34 HO Tryz.underlying34 ?_) | (go_at_call 65; (with_reducible refine (cC _ HO.below).mono ?_); rintro e w4 ⟨⟨gf, gc, rfl, b2, cb, q⟩, hn1⟩; replace HO := HO.deep (P := Ej gf b2 cb _ _ _ _ _) hn1 q; clear hn1 q; (try clear kk); (try simp only [yD] at HO); have kk := HO.kk) | (go_at_call 62; (with_reducible refine (cN _ HO.below).mono ?_); rintro e w1 ⟨⟨P, T, rfl, hq⟩, hn1⟩; replace HO := HO.deep (P := fun lo W => jk lo P T fG iQ kW ng W) hn1 hq; clear hn1 hq; (try clear kk); (try simp only [yD] at HO); have kk := HO.kk));clear cC cN;(try clear kk);rename_i Q0 gM V4 gF V3 gs1 V2 V1 V0 K1 a1;obtain ⟨gs2, rfl⟩ : ∃ q, q = g := ⟨_, rfl⟩;obtain ⟨L1, hL1, HO⟩ := bE HO;have hL : ∀ W, Own aK w L1 W → LdS gF gM P T gf b2 cb n b o cap (.string nm) (.int .u32 md) (.int .u32 (20 : Nat)) (.slice (some ⟨gI, 0, none⟩) 2 cI) (.slice (some ⟨gO, 0, none⟩) 2 cO) ln W := fun W h => by
  rw [hL1.out] at h;exact ⟨h.cell 4 0 rfl rfl, h.cell 4 1 rfl rfl, h.cell 4 2 rfl rfl, h.cell 4 3 rfl rfl, h.cell 4 4 rfl rfl, h.cell 5 2 rfl rfl, ⟨_, (h.at 1 rfl : aO _ _ _ W).out (jk.keeps P T fG iQ kW ng)⟩, ⟨_, (h.at 3 rfl : aO _ _ _ W).out (fE _ _ _ _ _ _ _ _)⟩⟩
 replace hL := hid hL;clear hL1;have hcl : ∀ W W2 : World, Own aK w L1 W → Bl W W2 → Own aK w L1 W2 := fun _ _ h k => h.then k
 have hSw := HO.drew;refine au (S := fun W => Own aK w L1 W) (by kernel_rfl) ?_;refine ag hcl 0 ?_;refine ag hcl 3 ?_;refine ag hcl 4 ?_;refine ag hcl 5 ?_;refine ag hcl 1 ?_ (hv := fun w hw => by have q1 := (hL.out _ hw).m; go_simp; first | done | with_reducible rfl);refine ag hcl 7 ?_ (hv := fun w hw => by obtain ⟨q0, q1, q2, q3, q4, -⟩ := hL.out _ hw; go_simp; first | done | with_reducible rfl);refine dC [2, 8] fun W2 hW2 => ?_
 replace HO := HO.drew.then hW2
 clear hW2 hSw;apply JI
 case h2 =>
  intro key;refine BF (fun K hK => ?_) fun K hK => ?_
  ·go_simp
   go_at_call 76;have cc := cIn _ HO.below;rw [← hln.out] at cc;refine cc.mono ?_;clear cc;rintro e W6 ⟨g2, c2, p2, D2, he, hp2, h2⟩;rw [← hln.out] at he;subst he;replace HO := HO.app h2;clear h2;simp only [List.cons_append, List.nil_append] at HO;refine bX hK (HO.drop 2) ?_;clear hK K;have hSw := HO.drop 2;refine tV hcl 6 64 (fun w hw => (lq P T w (hL.out _ hw).p0).mono (fun e w' h => ⟨h.1, h.2 ▸ Below.refl _ _⟩)) ?_;clear hSw;refine dC [8] fun W5 hW5 => ?_
   replace HO := HO.then hW5
   clear hW5;refine dO (fun K hK => ?_);go_simp;refine bX hK ((HO.alloc _).drop 3) ?_;clear hK K;refine bV HO ?_;generalize W5.heap.size = H;intro W4 HN;exact key H g2 c2 p2 D2 W4 hp2 HN
  ·go_simp
   refine bX hK ((HO.alloc _).drop 1) ?_;clear hK K;refine bV HO ?_;generalize W2.heap.size = H;intro W4 HN;refine dC [2] fun W5 hW5 => ?_
   replace HN := HN.then hW5
   clear hW5;refine dO (fun K hK => ?_);go_simp;go_at_call 76;have cc := cIn _ HN.below;rw [← hln.out] at cc;refine cc.mono ?_;clear cc;rintro e W6 ⟨g2, c2, p2, D2, he, hp2, h2⟩;rw [← hln.out] at he;subst he;replace HN := HN.app h2;clear h2;simp only [List.cons_append, List.nil_append] at HN;refine bX hK (HN.drop 3) ?_;clear hK K;have hSw := HN.drop 3;refine tV hcl 6 64 (fun w hw => (lq P T w (hL.out _ hw).p0).mono (fun e w' h => ⟨h.1, h.2 ▸ Below.refl _ _⟩)) ?_;exact key H g2 c2 p2 D2 W6 hp2 ((HN.perm (List.Perm.cons _ (List.Perm.swap _ _ _))).perm (List.Perm.swap _ _ _))
 clear HO;intro mr gi ci p D W4 hp HO;replace hp := hid hp;have hSw := HO.drop 3;refine ag hcl 9 ?_;refine dC [10] fun W5 hW5 => ?_
 replace HO := HO.then hW5
 clear hW5 hSw;refine dO (fun K hK => ?_);go_simp;refine bX hK ((HO.alloc _).drop 4) ?_;clear hK K;refine bV HO ?_;generalize W5.heap.size = gC;clear HO;intro W6 HO;have hSw := HO.drop 4;refine ag hcl 11 ?_;refine kS fun W8 hW8 => ?_
 replace HO := HO.then hW8
 clear hW8 hSw hcl hmm cIn;rw [← hln.out] at HO;replace HO := HO.recast 1 (A' := iO (.int .u32) bR vW mr (fun _ => none)) rfl (fun k hk => hk) (fQ (HO.blk 1 rfl));simp only [yT] at HO;replace HO := HO.row 0 24 1;(try simp only [yD] at HO); have kk := HO.kk;go_wp2_with (go_at_call 77; obtain ⟨lo, hq⟩ := (hL.out _ (HO.drop 5)).pq; (refine (GL hq (by decide) (by decide)).mono ?_); clear hq; rintro e w1 ⟨gv, rfl, hn1⟩; replace HO := HO.app hn1; clear hn1; simp only [List.cons_append, List.nil_append] at HO; (try clear kk); (try simp only [yD] at HO); have kk := HO.kk);(try clear kk);replace HO := HO.perm (List.Perm.swap _ _ _);refine wp_loop_rounds 5 ?_;rw [rounds_succ];have y2 := HO.rowcell 1 0 rfl rfl;have yz := block_lt_of_cell y2;(try simp only [yD] at HO); have kk := HO.kk;go_wp2_with (first | ((first | ((with_reducible refine aB HO ?_); intro g hg; rw [← hg.out]; clear hg) | (with_reducible refine ah HO ?_)); clear HO; (try clear kk); intro W' HO kk) | (go_at_call 78; obtain ⟨lo, hq⟩ := (hL.out _ (HO.drop 6)).pq; (refine (qX hq.pl 10 1 3 1 rfl (by decide)).mono ?_); clear hq y2 yz; rintro e w1 ⟨⟨t0, rfl, hw⟩, hn1⟩; replace HO := HO.deep (P := bW t0 1) hn1 hw; clear hn1 hw; (try clear kk); (try simp only [yD] at HO); have kk := HO.kk) | ((with_reducible refine oV ?_); refine pg HO 4 rfl rfl _ _ _ Tryz.underlying126 Tryz.underlying22 _ _ _ rfl 10 0 rfl rfl rfl rfl ?_; clear HO; (try clear kk); intro W' HO; simp only [yT] at HO; (try simp only [yD] at HO); have kk := HO.kk) | ((with_reducible refine aA ?_); refine bg HO je 2 0 rfl rfl rfl _ _ rfl rfl rfl rfl (by simp [Value.oneCell']) (by omega) (by omega) (Nat.zero_le _) ?_; intro gs cs W' HO'; clear HO; (try clear kk); have HO := HO'; clear HO'; simp only [yT] at HO; (try simp only [yD] at HO); have kk := HO.kk));(try clear kk);replace HO := HO.drop 1;simp only [List.drop_succ_cons, List.drop_zero] at HO;rw [rounds_succ];have y2 := HO.rowcell 2 1 rfl rfl;have yz := block_lt_of_cell y2;(try simp only [yD] at HO); have kk := HO.kk;go_wp2_with (first | ((first | ((with_reducible refine aB HO ?_); intro g hg; rw [← hg.out]; clear hg) | (with_reducible refine ah HO ?_)); clear HO; (try clear kk); intro W' HO kk) | (go_at_call 78; obtain ⟨lo, hq⟩ := (hL.out _ (HO.drop 7)).pq; (refine (qX hq.pl 11 1 3 1 rfl (by decide)).mono ?_); clear hq y2 yz; rintro e w1 ⟨⟨t1, rfl, hw⟩, hn1⟩; replace HO := HO.deep (P := bW t1 1) hn1 hw; clear hn1 hw; (try clear kk); (try simp only [yD] at HO); have kk := HO.kk) | ((with_reducible refine oV ?_); refine pg HO 5 rfl rfl _ _ _ Tryz.underlying126 Tryz.underlying22 _ _ _ rfl 11 1 rfl rfl rfl rfl ?_; clear HO; (try clear kk); intro W' HO; simp only [yT] at HO; (try simp only [yD] at HO); have kk := HO.kk) | ((with_reducible refine aA ?_); refine bg HO je 3 0 rfl rfl rfl _ _ rfl rfl rfl rfl (by simp [Value.oneCell']) (by omega) (by omega) (Nat.zero_le _) ?_; intro gs cs W' HO'; clear HO; (try clear kk); have HO := HO'; clear HO'; simp only [yT] at HO; (try simp only [yD] at HO); have kk := HO.kk));(try clear kk);replace HO := HO.drop 1;simp only [List.drop_succ_cons, List.drop_zero] at HO;rw [rounds_succ];have y2 := HO.rowcell 3 2 rfl rfl;have yz := block_lt_of_cell y2;(try simp only [yD] at HO); have kk := HO.kk;go_wp2_with (first | ((first | ((with_reducible refine aB HO ?_); intro g hg; rw [← hg.out]; clear hg) | (with_reducible refine ah HO ?_)); clear HO; (try clear kk); intro W' HO kk) | (go_at_call 78; obtain ⟨lo, hq⟩ := (hL.out _ (HO.drop 8)).pq; (refine (qX hq.pl 12 3 3 1 rfl (by decide)).mono ?_); clear hq y2 yz; rintro e w1 ⟨⟨t2, rfl, hw⟩, hn1⟩; replace HO := HO.deep (P := bW t2 1) hn1 hw; clear hn1 hw; (try clear kk); (try simp only [yD] at HO); have kk := HO.kk) | ((with_reducible refine oV ?_); refine pg HO 6 rfl rfl _ _ _ Tryz.underlying126 Tryz.underlying22 _ _ _ rfl 12 2 rfl rfl rfl rfl ?_; clear HO; (try clear kk); intro W' HO; simp only [yT] at HO; (try simp only [yD] at HO); have kk := HO.kk) | ((with_reducible refine aA ?_); refine bg HO je 4 0 rfl rfl rfl _ _ rfl rfl rfl rfl (by simp [Value.oneCell']) (by omega) (by omega) (Nat.zero_le _) ?_; intro gs cs W' HO'; clear HO; (try clear kk); have HO := HO'; clear HO'; simp only [yT] at HO; (try simp only [yD] at HO); have kk := HO.kk));(try clear kk);replace HO := HO.drop 1;simp only [List.drop_succ_cons, List.drop_zero] at HO;rw [rounds_succ];have y2 := HO.rowcell 4 3 rfl rfl;have yz := block_lt_of_cell y2;(try simp only [yD] at HO); have kk := HO.kk;go_wp2_with (first | ((first | ((with_reducible refine aB HO ?_); intro g hg; rw [← hg.out]; clear hg) | (with_reducible refine ah HO ?_)); clear HO; (try clear kk); intro W' HO kk) | (go_at_call 78; obtain ⟨lo, hq⟩ := (hL.out _ (HO.drop 9)).pq; (refine (qX hq.pl 13 3 5 4 rfl (by decide)).mono ?_); clear hq y2 yz; rintro e w1 ⟨⟨t3, rfl, hw⟩, hn1⟩; replace HO := HO.deep (P := bW t3 4) hn1 hw; clear hn1 hw; (try clear kk); (try simp only [yD] at HO); have kk := HO.kk) | ((with_reducible refine oV ?_); refine pg HO 7 rfl rfl _ _ _ Tryz.underlying126 Tryz.underlying22 _ _ _ rfl 13 3 rfl rfl rfl rfl ?_; clear HO; (try clear kk); intro W' HO; simp only [yT] at HO; (try simp only [yD] at HO); have kk := HO.kk) | ((with_reducible refine aA ?_); refine bg HO je 5 0 rfl rfl rfl _ _ rfl rfl rfl rfl (by simp [Value.oneCell']) (by omega) (by omega) (Nat.zero_le _) ?_; intro gs cs W' HO'; clear HO; (try clear kk); have HO := HO'; clear HO'; simp only [yT] at HO; (try simp only [yD] at HO); have kk := HO.kk));(try clear kk);replace HO := HO.drop 1;simp only [List.drop_succ_cons, List.drop_zero] at HO;rw [rounds_succ];obtain ⟨f0, f1, f2, f3, f4, -⟩ := hL.out _ (HO.drop 10);have zF := block_lt_of_cell f0;(try simp only [yD] at HO); have kk := HO.kk;go_wp2_with fail;clear f0 f1 f2 f3 f4 zF;(try clear kk);replace HO := HO.row 0 3 1;refine wp_loop_rounds 3 ?_;rw [rounds_succ];obtain ⟨a0, a1, a2, a3, a4, a5⟩ := P0.out;rw [hx] at a0;have za := block_lt_of_cell a0;(try simp only [yD] at HO); have kk := HO.kk;go_wp2_with (first | ((first | ((with_reducible refine aB HO ?_); intro g hg; rw [← hg.out]; clear hg) | (with_reducible refine ah HO ?_) | (refine ay 115 HO ?_)); clear HO; (try clear kk); intro W' HO kk));obtain ⟨gP, rfl⟩ : ∃ q, q = g := ⟨_, rfl⟩;clear a0 a1 a2 a3 a4 a5 za;(try clear kk);replace HO := HO.drew;have hcl : ∀ W W2 : World, BH gP gC mr 10 wu W → Bl W W2 → BH gP gC mr 10 wu W2 := fun _ _ h k => h.below k
 have hSw : BH gP gC mr 10 wu _ := ⟨HO.cell 0 0 rfl rfl, HO.cell 8 10 rfl rfl, HO.at 9 rfl⟩;refine au (S := fun W => BH gP gC mr 10 wu W) (by kernel_rfl) ?_;refine ag hcl 0 ?_;refine ag hcl 1 ?_;refine ag hcl 2 ?_;refine ag hcl 3 ?_;refine ag hcl 5 ?_;refine ag hcl 6 ?_;refine ag hcl 7 ?_;refine ag hcl 9 ?_;refine ag hcl 8 ?_ (hv := fun w hw => by have q1 := hw.c10; go_simp; first | done | with_reducible rfl);refine ag hcl 10 ?_ (hv := fun w hw => by have q1 := hw.p0; go_simp; first | done | with_reducible rfl);refine ag hcl 11 ?_ (hv := fun w hw => by have q1 : (Instr.lookup 126 (.map (some mr)) (.int .u32 10) false).run Tryz.prog w = .ok (.int .i64 0) w := hw.hit (k := 0) rfl; go_simp; first | done | with_reducible rfl);refine dC [4, 12] fun W2 hW2 => ?_
 replace HO := HO.then hW2
 clear hW2 hSw;apply Bw
 case h2 =>
  intro key;refine BF (fun K hK => ?_) fun K hK => ?_
  ·have k0 := HO.cells 8 rfl
   go_simp;refine bX hK ⟨HO.cell 0 0 rfl rfl, HO.cell 8 10 rfl rfl, HO.at 9 rfl⟩ ?_;clear hK K k0;refine dC [12] fun W3 hW3 => ?_
   replace HO := HO.then hW3
   clear hW3;refine dO (fun K hK => ?_);go_simp;refine bX hK ⟨(HO.alloc _).cell 1 0 rfl rfl, (HO.alloc _).cell 9 10 rfl rfl, (HO.alloc _).at 10 rfl⟩ ?_;clear hK K;refine bV HO ?_;generalize W3.heap.size = H;intro W4 HN;exact key H W4 HN
  ·go_simp
   refine bX hK ⟨(HO.alloc _).cell 1 0 rfl rfl, (HO.alloc _).cell 9 10 rfl rfl, (HO.alloc _).at 10 rfl⟩ ?_;clear hK K;refine bV HO ?_;generalize W2.heap.size = H;intro W4 HN;refine dC [4] fun W3 hW3 => ?_
   replace HN := HN.then hW3
   clear hW3;have k0 := HN.cells 9 rfl;refine dO (fun K hK => ?_);go_simp;refine bX hK ⟨HN.cell 1 0 rfl rfl, HN.cell 9 10 rfl rfl, HN.at 10 rfl⟩ ?_;clear hK K k0;exact key H W3 HN
 clear HO;intro H W4 HO;refine dC [13] fun W5 hW5 => ?_
 replace HO := HO.then hW5
 clear hW5;refine dO (fun K hK => ?_);refine bY HO pI 2 0 rfl rfl rfl _ _ rfl rfl rfl rfl (by simp [Value.oneCell']) (by omega) (by omega) (Nat.zero_le _) ?_;intro gq cq W6 HP;simp only [yT] at HP;have hSw : BH gP gC mr 10 wu _ := ⟨HP.cell 1 0 rfl rfl, HP.cell 9 10 rfl rfl, HP.at 10 rfl⟩;refine bX hK hSw ?_;clear hK K HO;refine ag hcl 14 ?_;refine ag hcl 15 ?_;refine dC [16] fun W7 hW7 => ?_
 have HO := HP.then hW7
 clear hW7 HP hSw;have k0 := HO.cells 9 rfl;have m0 := HO.melt 9 rfl;refine dO (fun K hK => ?_);go_simp;have H2 := HO.set 9 12 (.slice (some ⟨gq, 0, none⟩) 1 cq) rfl;refine bX hK ⟨H2.cell 1 0 rfl rfl, H2.cell 9 10 rfl rfl, H2.at 10 rfl⟩ ?_;clear hK K k0 m0 HO;refine kS fun W8 hW8 => ?_
 have HO := H2.then hW8
 clear H2 hW8 hcl;simp only [yT] at HO;replace HO := HO.drop 2;simp only [List.drop_succ_cons, List.drop_zero] at HO;(try simp only [yD] at HO); have kk := HO.kk;go_wp2_with fail;(try clear kk);rw [rounds_succ];obtain ⟨a0, a1, a2, a3, a4, a5⟩ := P1.out;rw [hy] at a0;have za := block_lt_of_cell a0;(try simp only [yD] at HO); have kk := HO.kk;go_wp2_with (first | ((first | ((with_reducible refine aB HO ?_); intro g hg; rw [← hg.out]; clear hg) | (with_reducible refine ah HO ?_) | (refine ay 115 HO ?_)); clear HO; (try clear kk); intro W' HO kk));obtain ⟨gP, rfl⟩ : ∃ q, q = g := ⟨_, rfl⟩;clear a0 a1 a2 a3 a4 a5 za;(try clear kk);replace HO := HO.drew;have hcl : ∀ W W2 : World, BH gP gC mr 11 wu W → Bl W W2 → BH gP gC mr 11 wu W2 := fun _ _ h k => h.below k
 have hSw : BH gP gC mr 11 wu _ := ⟨HO.cell 0 0 rfl rfl, HO.cell 8 10 rfl rfl, HO.at 9 rfl⟩;refine au (S := fun W => BH gP gC mr 11 wu W) (by kernel_rfl) ?_;refine ag hcl 0 ?_;refine ag hcl 1 ?_;refine ag hcl 2 ?_;refine ag hcl 3 ?_;refine ag hcl 5 ?_;refine ag hcl 6 ?_;refine ag hcl 7 ?_;refine ag hcl 9 ?_;refine ag hcl 8 ?_ (hv := fun w hw => by have q1 := hw.c10; go_simp; first | done | with_reducible rfl);refine ag hcl 10 ?_ (hv := fun w hw => by have q1 := hw.p0; go_simp; first | done | with_reducible rfl);refine ag hcl 11 ?_ (hv := fun w hw => by have q1 : (Instr.lookup 126 (.map (some mr)) (.int .u32 11) false).run Tryz.prog w = .ok (.int .i64 1) w := hw.hit (k := 1) rfl; go_simp; first | done | with_reducible rfl);refine dC [4, 12] fun W2 hW2 => ?_
 replace HO := HO.then hW2
 clear hW2 hSw;apply Bw
 case h2 =>
  intro key;refine BF (fun K hK => ?_) fun K hK => ?_
  ·have k0 := HO.cells 8 rfl
   go_simp;refine bX hK ⟨HO.cell 0 0 rfl rfl, HO.cell 8 10 rfl rfl, HO.at 9 rfl⟩ ?_;clear hK K k0;refine dC [12] fun W3 hW3 => ?_
   replace HO := HO.then hW3
   clear hW3;refine dO (fun K hK => ?_);go_simp;refine bX hK ⟨(HO.alloc _).cell 1 0 rfl rfl, (HO.alloc _).cell 9 10 rfl rfl, (HO.alloc _).at 10 rfl⟩ ?_;clear hK K;refine bV HO ?_;generalize W3.heap.size = H;intro W4 HN;exact key H W4 HN
  ·go_simp
   refine bX hK ⟨(HO.alloc _).cell 1 0 rfl rfl, (HO.alloc _).cell 9 10 rfl rfl, (HO.alloc _).at 10 rfl⟩ ?_;clear hK K;refine bV HO ?_;generalize W2.heap.size = H;intro W4 HN;refine dC [4] fun W3 hW3 => ?_
   replace HN := HN.then hW3
   clear hW3;have k0 := HN.cells 9 rfl;refine dO (fun K hK => ?_);go_simp;refine bX hK ⟨HN.cell 1 0 rfl rfl, HN.cell 9 10 rfl rfl, HN.at 10 rfl⟩ ?_;clear hK K k0;exact key H W3 HN
 clear HO;intro H W4 HO;refine dC [13] fun W5 hW5 => ?_
 replace HO := HO.then hW5
 clear hW5;refine dO (fun K hK => ?_);refine bY HO pI 2 0 rfl rfl rfl _ _ rfl rfl rfl rfl (by simp [Value.oneCell']) (by omega) (by omega) (Nat.zero_le _) ?_;intro gq cq W6 HP;simp only [yT] at HP;have hSw : BH gP gC mr 11 wu _ := ⟨HP.cell 1 0 rfl rfl, HP.cell 9 10 rfl rfl, HP.at 10 rfl⟩;refine bX hK hSw ?_;clear hK K HO;refine ag hcl 14 ?_;refine ag hcl 15 ?_;refine dC [16] fun W7 hW7 => ?_
 have HO := HP.then hW7
 clear hW7 HP hSw;have k0 := HO.cells 9 rfl;have m0 := HO.melt 9 rfl;refine dO (fun K hK => ?_);go_simp;have H2 := HO.set 9 12 (.slice (some ⟨gq, 0, none⟩) 2 cq) rfl;refine bX hK ⟨H2.cell 1 0 rfl rfl, H2.cell 9 10 rfl rfl, H2.at 10 rfl⟩ ?_;clear hK K k0 m0 HO;refine kS fun W8 hW8 => ?_
 have HO := H2.then hW8
 clear H2 hW8 hcl;simp only [yT] at HO;replace HO := HO.drop 2;simp only [List.drop_succ_cons, List.drop_zero] at HO;(try simp only [yD] at HO); have kk := HO.kk;go_wp2_with fail;(try clear kk);rw [rounds_succ];obtain ⟨f0, f1, f2, f3, f4, -, -, lo, hfq⟩ := hL.out _ (HO.drop 11);have zF := block_lt_of_cell f0;have cX := zH gF gf gc b2 cb 20 19 (25 + n + 1 : Nat) _ f2 hfq.mem;clear f0 f1 f3 f4 hfq;(try simp only [yD] at HO); have kk := HO.kk;go_wp2_with (first | ((with_reducible refine ah HO ?_); clear HO; (try clear kk); intro W' HO kk) | (go_at_call 79; (refine cX.mono ?_); rintro e w1 ⟨rfl, hn1⟩; replace HO := HO.then hn1; clear hn1; (try clear kk); have kk := HO.kk));go_ret;replace HO := HO.set 7 9 (.int .i64 0) rfl;simp only [yT] at HO;have h1 := hL.out _ (HO.drop 11);have hln2 : ln = 27 + n := hln.out.trans ak;refine ⟨⟨gC, gi, ci, gf, gc, b2, cb, P, T, mr, gs, cs, gq, cq, t0, t1, t2, t3, rfl, ?_⟩, HO.below⟩;exact ⟨by rw [← hln2]; exact HO.cell 7 0 rfl rfl, HO.cell 7 1 rfl rfl, HO.cell 7 2 rfl rfl, HO.cell 7 3 rfl rfl, HO.cell 7 8 rfl rfl, HO.cell 7 9 rfl rfl, HO.cell 7 10 rfl rfl, HO.cell 7 11 rfl rfl, HO.cell 7 12 rfl rfl, ⟨_, Jt HO 9 10 rfl rfl (aj n f) hp.out HP.out HF.out⟩, h1.fq, h1.pq, HO.at 8 rfl, HO.rowcell 5 0 rfl rfl, HO.rowcell 5 1 rfl rfl, HO.rowcell 5 2 rfl rfl, HO.rowcell 5 3 rfl rfl, HO.rowcell 0 0 rfl rfl, HO.rowcell 0 1 rfl rfl, (HO.wordsOf 2 rfl (by decide)).2, (HO.wordsOf 1 rfl (by decide)).2⟩
theorem Eo : El 50 49 3 40 := El.of Tryz.underlying50 (z := .agg #[.int .i64 0, .int .i64 0, .slice none 0 0]) (by kernel_rfl) rfl (by omega)
structure BM (gP gM gC gm mr id sz : Nat) (W : World) : Prop where
 p0 : W.cell? ⟨gP, 0, none⟩ = some (.int .u32 id)
 p4 : W.cell? ⟨gP, 4, none⟩ = some (.int .i64 sz)
 m0 : W.cell? ⟨gM, 0, none⟩ = some (.pointer (some ⟨gC, 0, none⟩))
 m1 : W.cell? ⟨gM, 1, none⟩ = some (.pointer (some ⟨gm, 0, none⟩))
 c10 : W.cell? ⟨gC, 10, none⟩ = some (.map (some mr))
 rm : Mp (.int .u32) bR (fun _ v x => v = vW x) W mr wu
theorem BM.below {gP gM gC gm mr id sz : Nat} {w W : World} (h : BM gP gM gC gm mr id sz w) (hb : Bl w W) : BM gP gM gC gm mr id sz W :=
 have k : ∀ {g o : Nat} {v : Value}, w.cell? ⟨g, o, none⟩ = some v → W.cell? ⟨g, o, none⟩ = some v := fun h => ae h (block_lt_of_cell h) hb
 ⟨k h.p0, k h.p4, k h.m0, k h.m1, k h.c10, h.rm.other (hb.block mr h.rm.lt) (fun _ _ e => e)⟩
theorem BM.hit {gP gM gC gm mr id sz : Nat} {w : World} (h : BM gP gM gC gm mr id sz w) {k : Nat} (e : wu id = some k) : (Instr.lookup 126 (.map (some mr)) (.int .u32 id) false).run Tryz.prog w = .ok (.int .i64 k) w :=
 BH.hit (gP := gP) (gC := gC) (rm := wu) ⟨h.p0, h.c10, h.rm⟩ e
structure LW (gM gC gm mr gO cO : Nat) (u v : jO) (W : World) : Prop where
 m0 : W.cell? ⟨gM, 0, none⟩ = some (.pointer (some ⟨gC, 0, none⟩))
 m1 : W.cell? ⟨gM, 1, none⟩ = some (.pointer (some ⟨gm, 0, none⟩))
 c8 : W.cell? ⟨gC, 8, none⟩ = some (.slice (some ⟨gO, 0, none⟩) 2 cO)
 c10 : W.cell? ⟨gC, 10, none⟩ = some (.map (some mr))
 rm : Mp (.int .u32) bR (fun _ v x => v = vW x) W mr wu
 o0 : dN W gO 0 u
 o1 : dN W gO 6 v
theorem LW.below {gM gC gm mr gO cO : Nat} {u v : jO} {w W : World} (h : LW gM gC gm mr gO cO u v w) (hb : Bl w W) : LW gM gC gm mr gO cO u v W :=
 have k : ∀ {g o : Nat} {v : Value}, w.cell? ⟨g, o, none⟩ = some v → W.cell? ⟨g, o, none⟩ = some v := fun h => ae h (block_lt_of_cell h) hb
 ⟨k h.m0, k h.m1, k h.c8, k h.c10, h.rm.other (hb.block mr h.rm.lt) (fun _ _ e => e), h.o0.below hb, h.o1.below hb⟩
structure LD (z : Nat) (u v : jO) (w : World) (e : Ending) (w' : World) : Prop where
 at_ : ∃ g c t2 k2 t3 k3, e = .returned (.slice (some ⟨g, 0, none⟩) 2 c) ∧ Own aK w [bM 0 49 3 (.slice (some ⟨g, 0, none⟩) 2 c) 2 [.int .i64 u.loc, .int .i64 u.bi, .slice (some ⟨t2, 0, none⟩) 1 k2, .int .i64 v.loc, .int .i64 v.bi, .slice (some ⟨t3, 0, none⟩) 4 k3], bM 0 22 1 (.slice (some ⟨t2, 0, none⟩) 1 k2) 1 (wV [z])] w'
theorem Iy (gM gC gm gr cr mr gO cO g2 c2 g3 c3 z : Nat) (u v : jO) (w : World) (hF : LW gM gC gm mr gO cO u v w) (hu : u.v = 12) (hv : v.v = 13) (su : u.sz = 1) (sv : v.sz = 4) (hR2 : Room gm gr g2 2 4 1 c2 cr w) (hR3 : Room gm gr g3 3 4 4 c3 cr w) (h2 : ∀ j x, (wV [z])[j]? = some x → w.cell? ⟨g2, j, none⟩ = some x) (h3 : ∀ j x, (wV [0, 0, 0, 0])[j]? = some x → w.cell? ⟨g3, j, none⟩ = some x) :
  Calls Tryz.prog 32 #[.pointer (some ⟨gM, 0, none⟩)] w fun e w' => LD z u v w e w' := by
 have kb : ∀ {W : World} {g o : Nat} {v : Value}, Bl w W → w.cell? ⟨g, o, none⟩ = some v → W.cell? ⟨g, o, none⟩ = some v := fun hb h => ae h (block_lt_of_cell h) hb
 have cL2 : ∀ W, Bl w W → _ := fun W hb => qd (hR2.keep hb) [z] (by simp) (by simp) (fun j x e => kb hb (h2 j x e))
 have cL3 : ∀ W, Bl w W → _ := fun W hb => qd (hR3.keep hb) [0, 0, 0, 0] (by simp) (by simp) (fun j x e => kb hb (h3 j x e))
 clear h2 h3 hR2 hR3 kb;have HF := hid hF;have O0 := hid hF.o0;have O1 := hid hF.o1;obtain ⟨q0, q1, q2, -, -, -, -⟩ := hF;have z0 := block_lt_of_cell q0;have z2 := block_lt_of_cell q2;have HO := Own.nil w;go_enter Tryz.func32, Tryz.ntmps32;go_wp2_with fail;clear q0 q1 q2 z0 z2;replace HO := HO.row 0 49 3;refine wp_loop_rounds 3 ?_;rw [rounds_succ];obtain ⟨a0, a1, a2, a3, a4, a5⟩ := O0.out;rw [hu] at a0;rw [su] at a4;have za := block_lt_of_cell a0;(try simp only [yD] at HO); have kk := HO.kk;go_wp2_with (first | ((first | ((with_reducible refine aB HO ?_); intro g hg; rw [← hg.out]; clear hg) | (with_reducible refine ah HO ?_) | (refine ay 115 HO ?_)); clear HO; (try clear kk); intro W' HO kk));obtain ⟨gP, rfl⟩ : ∃ q, q = g := ⟨_, rfl⟩;clear a0 a1 a2 a3 a4 a5 za;(try clear kk);replace HO := HO.drew;have hSw : BM gP gM gC gm mr 12 1 _ := ⟨HO.cell 0 0 rfl rfl, HO.cell 0 4 rfl rfl, (HF.out.below HO.below).m0, (HF.out.below HO.below).m1, (HF.out.below HO.below).c10, (HF.out.below HO.below).rm⟩;have hcl : ∀ W W2 : World, BM gP gM gC gm mr 12 1 W → Bl W W2 → BM gP gM gC gm mr 12 1 W2 := fun _ _ h k => h.below k
 refine au (S := fun W => BM gP gM gC gm mr 12 1 W) (by kernel_rfl) ?_;refine ag hcl 0 ?_;refine ag hcl 1 ?_;refine ag hcl 2 ?_;refine ag hcl 4 ?_;refine ag hcl 5 ?_;refine ag hcl 6 ?_;refine ag hcl 3 ?_ (hv := fun w hw => by have q1 := hw.m1; go_simp; first | done | with_reducible rfl);refine ag hcl 7 ?_ (hv := fun w hw => by have q1 := hw.m0; go_simp; first | done | with_reducible rfl);refine ag hcl 8 ?_;refine ag hcl 9 ?_;refine ag hcl 10 ?_ (hv := fun w hw => by have q1 := hw.c10; go_simp; first | done | with_reducible rfl);refine ag hcl 11 ?_;refine ag hcl 14 ?_;refine ag hcl 12 ?_ (hv := fun w hw => by have q1 := hw.p0; go_simp; first | done | with_reducible rfl);refine ag hcl 15 ?_ (hv := fun w hw => by have q1 := hw.p4; go_simp; first | done | with_reducible rfl);refine ag hcl 13 ?_ (hv := fun w hw => by have q1 : (Instr.lookup 126 (.map (some mr)) (.int .u32 12) false).run Tryz.prog w = .ok (.int .i64 2) w := hw.hit (k := 2) rfl; go_simp; first | done | with_reducible rfl);refine dC [16] fun W2 hW2 => ?_
 replace HO := HO.then hW2
 clear hW2 hSw;refine dO (fun K hK => ?_);go_simp;go_at_call 86;refine (cL2 _ HO.below).mono ?_;rintro e W6 ⟨t2, k2, rfl, h2⟩;replace HO := HO.app h2;clear h2;simp only [List.cons_append, List.nil_append] at HO;have hSw : BM gP gM gC gm mr 12 1 _ := ⟨HO.cell 1 0 rfl rfl, HO.cell 1 4 rfl rfl, (HF.out.below HO.below).m0, (HF.out.below HO.below).m1, (HF.out.below HO.below).c10, (HF.out.below HO.below).rm⟩;refine bX hK hSw ?_;clear hK K;refine ag hcl 17 ?_;refine ag hcl 18 ?_;refine ag hcl 19 ?_;refine ag hcl 20 ?_;refine ag hcl 21 ?_;refine kS fun W8 hW8 => ?_
 replace HO := HO.then hW8
 clear hW8 hSw hcl;(try simp only [yD] at HO); have kk := HO.kk;go_wp2_with (first | ((first | ((with_reducible refine aB HO ?_); intro g hg; rw [← hg.out]; clear hg) | (with_reducible refine ah HO ?_)); clear HO; (try clear kk); intro W' HO kk) | ((with_reducible refine aA ?_); refine bg HO Eo 3 0 rfl rfl rfl _ _ rfl rfl rfl rfl (by simp [Value.oneCell']) (by omega) (by omega) (Nat.zero_le _) ?_; intro gq cq W' HO'; clear HO; (try clear kk); have HO := HO'; clear HO'; simp only [yT] at HO; (try simp only [yD] at HO); have kk := HO.kk));(try clear kk);replace HO := HO.drop 1;simp only [List.drop_succ_cons, List.drop_zero] at HO;rw [rounds_succ];obtain ⟨a0, a1, a2, a3, a4, a5⟩ := O1.out;rw [hv] at a0;rw [sv] at a4;have za := block_lt_of_cell a0;(try simp only [yD] at HO); have kk := HO.kk;go_wp2_with (first | ((first | ((with_reducible refine aB HO ?_); intro g hg; rw [← hg.out]; clear hg) | (with_reducible refine ah HO ?_) | (refine ay 115 HO ?_)); clear HO; (try clear kk); intro W' HO kk));obtain ⟨gP, rfl⟩ : ∃ q, q = g := ⟨_, rfl⟩;clear a0 a1 a2 a3 a4 a5 za;(try clear kk);replace HO := HO.drew;have hSw : BM gP gM gC gm mr 13 4 _ := ⟨HO.cell 0 0 rfl rfl, HO.cell 0 4 rfl rfl, (HF.out.below HO.below).m0, (HF.out.below HO.below).m1, (HF.out.below HO.below).c10, (HF.out.below HO.below).rm⟩;have hcl : ∀ W W2 : World, BM gP gM gC gm mr 13 4 W → Bl W W2 → BM gP gM gC gm mr 13 4 W2 := fun _ _ h k => h.below k
 refine au (S := fun W => BM gP gM gC gm mr 13 4 W) (by kernel_rfl) ?_;refine ag hcl 0 ?_;refine ag hcl 1 ?_;refine ag hcl 2 ?_;refine ag hcl 4 ?_;refine ag hcl 5 ?_;refine ag hcl 6 ?_;refine ag hcl 3 ?_ (hv := fun w hw => by have q1 := hw.m1; go_simp; first | done | with_reducible rfl);refine ag hcl 7 ?_ (hv := fun w hw => by have q1 := hw.m0; go_simp; first | done | with_reducible rfl);refine ag hcl 8 ?_;refine ag hcl 9 ?_;refine ag hcl 10 ?_ (hv := fun w hw => by have q1 := hw.c10; go_simp; first | done | with_reducible rfl);refine ag hcl 11 ?_;refine ag hcl 14 ?_;refine ag hcl 12 ?_ (hv := fun w hw => by have q1 := hw.p0; go_simp; first | done | with_reducible rfl);refine ag hcl 15 ?_ (hv := fun w hw => by have q1 := hw.p4; go_simp; first | done | with_reducible rfl);refine ag hcl 13 ?_ (hv := fun w hw => by have q1 : (Instr.lookup 126 (.map (some mr)) (.int .u32 13) false).run Tryz.prog w = .ok (.int .i64 3) w := hw.hit (k := 3) rfl; go_simp; first | done | with_reducible rfl);refine dC [16] fun W2 hW2 => ?_
 replace HO := HO.then hW2
 clear hW2 hSw;refine dO (fun K hK => ?_);go_simp;go_at_call 86;refine (cL3 _ HO.below).mono ?_;rintro e W6 ⟨t3, k3, rfl, h2⟩;replace HO := HO.app h2;clear h2;simp only [List.cons_append, List.nil_append] at HO;have hSw : BM gP gM gC gm mr 13 4 _ := ⟨HO.cell 1 0 rfl rfl, HO.cell 1 4 rfl rfl, (HF.out.below HO.below).m0, (HF.out.below HO.below).m1, (HF.out.below HO.below).c10, (HF.out.below HO.below).rm⟩;refine bX hK hSw ?_;clear hK K;refine ag hcl 17 ?_;refine ag hcl 18 ?_;refine ag hcl 19 ?_;refine ag hcl 20 ?_;refine ag hcl 21 ?_;refine kS fun W8 hW8 => ?_
 replace HO := HO.then hW8
 clear hW8 hSw hcl;(try simp only [yD] at HO); have kk := HO.kk;go_wp2_with (first | ((first | ((with_reducible refine aB HO ?_); intro g hg; rw [← hg.out]; clear hg) | (with_reducible refine ah HO ?_)); clear HO; (try clear kk); intro W' HO kk) | ((with_reducible refine aA ?_); refine bg HO Eo 5 0 rfl rfl rfl _ _ rfl rfl rfl rfl (by simp [Value.oneCell']) (by omega) (by omega) (Nat.zero_le _) ?_; intro gq cq W' HO'; clear HO; (try clear kk); have HO := HO'; clear HO'; simp only [yT] at HO; (try simp only [yD] at HO); have kk := HO.kk));(try clear kk);replace HO := HO.drop 1;simp only [List.drop_succ_cons, List.drop_zero] at HO;rw [rounds_succ];go_wp2_with fail;go_ret;exact ⟨⟨gq, cq, t2, k2, t3, k3, rfl, HO.sub (.cons _ (.cons _ (.cons_cons _ (.cons _ (.cons_cons _ .slnil))))) |>.perm (List.Perm.swap _ _ _)⟩⟩
theorem Jc (X gM z : Nat) (u v : jO) (w : World) (hX : w.cell? ⟨X, 0, none⟩ = some (.pointer (some ⟨gM, 0, none⟩)))
  (cO : Calls Tryz.prog 32 #[.pointer (some ⟨gM, 0, none⟩)] w fun e w' => LD z u v w e w') :
  Calls Tryz.prog 12 #[.pointer (some ⟨X, 0, none⟩)] w fun e w' => LD z u v w e w' := by
 have zX := block_lt_of_cell hX;go_enter Tryz.func12, Tryz.ntmps12;go_wp2_with (go_at_call 32; (with_reducible refine cO.mono ?_); rintro e w1 ⟨g, c, t2, k2, t3, k3, rfl, HO⟩);go_ret;exact ⟨⟨g, c, t2, k2, t3, k3, rfl, HO⟩⟩
end Go.Proofs.YtlkolghiknbbfaaGreatDoor
