/- Consts: add, a variable. -/
import Derived.Test.YtindnnbopaeklaaGreatDoorAy
namespace Go.Proofs.YtindnnbopaeklaaGreatDoor
set_option linter.unusedVariables false
set_option linter.unusedSimpArgs false
set_option maxRecDepth 100000
set_option maxHeartbeats 4000000
open Go.RowKit Go.MapKept
structure VarD where
 cls : Nat
 ty : Nat
 at_ : Nat
 n : Nat
def encVr (x : VarD) : Value := .agg #[.int .u32 x.cls, .int .u32 x.ty, .slice (some ⟨x.at_, 0, none⟩) x.n x.n]
def wordsP (g n : Nat) (lo : Nat) (W : World) : Prop := lo ≤ g ∧ ∀ j, W.cell? ⟨g, j, none⟩ = (wz n)[j]?
structure CnD where
 ty : Nat
 at_ : Nat
 n : Nat
def encCn (x : CnD) : Value := .agg #[.int .u32 x.ty, .slice (some ⟨x.at_, 0, none⟩) x.n x.n]
def pcL (lo P T mc mv : Nat) (cs vs : Value) (n : Nat) (xs : List Value) (fc : Nat → Option CnD) (L : List As) : List As :=
 rw_ lo 23 1 cs n xs :: cls P #[.pointer (some ⟨T, 0, none⟩), cs, .map (some mc), vs, .map (some mv)] 127 :: mpA (.int .u32) keyU encCn mc fc :: L
theorem ctypes_own (P T : Nat) (w : World) (hP : w.cell? ⟨P, 0, none⟩ = some (.pointer (some ⟨T, 0, none⟩))) :
  Calls Tryz.prog 55 #[.pointer (some ⟨P, 0, none⟩)] w fun e w' => e = .returned (.pointer (some ⟨T, 0, none⟩)) ∧ w' = w := by
 go_enter Tryz.func55, Tryz.ntmps55
 go_wp2_with fail
 go_ret
 exact ⟨rfl, rfl⟩
theorem cells_below (B b : Nat) (a : World) (hb : B ≤ b) (vs : List Value) : ∀ (o : Nat) (w : World), Below B a w → Below B a (w.setCells b o vs) := by
 induction vs with
 | nil => exact fun o w h => h
 | cons v r ih => exact fun o w h => ih (o + 1) _ (below_setc h hb)
theorem Keeps.below {P : Nat → World → Prop} (hP : Keeps P) {lo : Nat} {W W' : World} (h : P lo W) (hb : Below W.heap.size W W') : P lo W' := hP lo W W' h (fun k _ hk => hb.block k hk)
theorem TbIn.keeps (T : Nat) (tab : Nat → Option TyD) : Keeps (fun lo W => TbIn lo T tab W) := fun lo W W' h hk => by
 obtain ⟨al, f, Dm, h1, h2, h3, h4, h5, h6⟩ := h.at_
 refine ⟨al, f, Dm, h1, h2, h3, ⟨(World.cell?_of_block (a := ⟨T, 0, none⟩) (hk T h1 h4.lt)).trans h4.c0, h4.mp.other (hk al h2 h4.mp.lt) (fun _ _ e => e)⟩, h5, ?_⟩
 intro id x d e1 e2 e3
 obtain ⟨b, o, e4, e5, e6⟩ := h6 id x d e1 e2 e3
 exact ⟨b, o, e4, e5, fun i hi => (World.cell?_of_block (a := ⟨b, o + i, none⟩) (hk b (h3 b e5) (block_lt_of_cell (e6 i hi)))).trans (e6 i hi)⟩
section
variable {lo T : Nat} {tab : Nat → Option TyD} {w : World}
theorem TbIn.kind (h : TbIn lo T tab w) (id : Nat) : Calls Tryz.prog 65 #[.pointer (some ⟨T, 0, none⟩), .int .u32 id] w fun e w' => e = .returned (.int .u8 (getD_ tab id).kind) ∧ Below w.heap.size w w' := by
 obtain ⟨al, f, Dm, -, -, -, h4, h5, -⟩ := h.at_
 rw [← (h5 id).1.kind]
 exact tkind_own T al f id w h4
theorem TbIn.signed (h : TbIn lo T tab w) (id : Nat) : Calls Tryz.prog 367 #[.pointer (some ⟨T, 0, none⟩), .int .u32 id] w fun e w' => e = .returned (.bool (getD_ tab id).sg) ∧ Below w.heap.size w w' := by
 obtain ⟨al, f, Dm, -, -, -, h4, h5, -⟩ := h.at_
 rw [← (h5 id).1.sg]
 exact tsigned_own T al f id w h4
theorem TbIn.plain (h : TbIn lo T tab w) (id : Nat) : Calls Tryz.prog 136 #[.pointer (some ⟨T, 0, none⟩), .int .u32 id] w fun e w' => e = .returned (.bool (decide (0 < (getD_ tab id).size))) ∧ Below w.heap.size w w' := by
 obtain ⟨al, f, Dm, -, -, -, h4, h5, -⟩ := h.at_
 rw [← (h5 id).1.size]
 exact tplain_own T al f id w h4
theorem TbIn.count (h : TbIn lo T tab w) (id : Nat) (hs : (getD_ tab id).times ≤ 5000 ∧ (getD_ tab id).parts.length ≤ 2000000) : Calls Tryz.prog 66 #[.pointer (some ⟨T, 0, none⟩), .int .u32 id] w fun e w' => e = .returned (.int .i64 (((getD_ tab id).times + (getD_ tab id).parts.length : Nat) : Int)) ∧ Below w.heap.size w w' := by
 obtain ⟨al, f, Dm, -, -, -, h4, h5, -⟩ := h.at_
 rw [← (h5 id).1.times, ← (h5 id).1.pn] at hs ⊢
 exact tcount_own T al f id w h4 hs
theorem TbIn.row (h : TbIn lo T tab w) (id : Nat) (d : TyD) (hd : tab id = some d) (hp : 0 < d.parts.length) : ∃ al f b o, TbR T al f w ∧ TabRel f tab ∧ (getT f id).pa = some ⟨b, o, none⟩ ∧ ∀ i (h : i < d.parts.length), w.cell? ⟨b, o + i, none⟩ = some (.int .u32 d.parts[i]) := by
 obtain ⟨al, f, Dm, -, -, -, h4, h5, h6⟩ := h.at_
 have hs := (h5 id).2
 rw [hd] at hs
 obtain ⟨x, hx⟩ := Option.isSome_iff_exists.1 hs
 obtain ⟨b, o, e1, e2, e3⟩ := h6 id x d hx hd hp
 exact ⟨al, f, b, o, h4, h5, by unfold getT; rw [hx]; exact e1, e3⟩
theorem TbIn.part_list (h : TbIn lo T tab w) (id k p : Nat) (d : TyD) (hd : tab id = some d) (ht : d.times = 0) (hk : d.parts[k]? = some p) (hn : d.parts.length ≤ 2000000) : Calls Tryz.prog 67 #[.pointer (some ⟨T, 0, none⟩), .int .u32 id, .int .i64 k] w fun e w' => e = .returned (.tuple #[.int .u32 p, .bool true]) ∧ Below w.heap.size w w' := by
 obtain ⟨hlt, hq⟩ := List.getElem?_eq_some_iff.1 hk
 obtain ⟨al, f, b, o, h4, h5, h6, h7⟩ := h.row id d hd (by omega)
 have e : getD_ tab id = d := by unfold getD_; rw [hd]; rfl
 have h8 := (h5 id).1
 rw [e] at h8
 have h9 := h7 k hlt
 rw [hq] at h9
 exact tpart_list T al f id k p b o w h4 (h8.times.trans ht) (by rw [h8.pn]; exact hlt) (by rw [h8.pn]; exact hn) h6 h9
end
def wordsA (D : Nat → Prop) (f : Nat → Option VarD) : As := ⟨D, fun W => ∀ id x, f id = some x → D x.at_ ∧ ∀ j, W.cell? ⟨x.at_, j, none⟩ = (wz x.n)[j]?, fun W W' h hk id x e => by
 obtain ⟨a, b⟩ := h id x e
 exact ⟨a, fun j => (World.cell?_of_block (a := ⟨x.at_, j, none⟩) (hk _ a)).trans (b j)⟩⟩
theorem Own.words {X : Nat → Prop} {w W : World} {L : List As} {D : Nat → Prop} {f : Nat → Option VarD} {lo hi g k : Nat} (h : Own X w (Go.Proofs.YtindnnbopaeklaaGreatDoor.deep lo hi (wordsP g k) :: wordsA D f :: L) W) (hk : 0 < k) (id c p : Nat) : Own X w (wordsA (fun b => (lo ≤ b ∧ b < hi) ∨ D b) (kup f id ⟨c, p, g, k⟩) :: L) W := by
 have h2 := h.join
 have hd := (h.at 0 rfl : DeepAt _ _ _ W)
 have hr := h.at 1 rfl
 refine h2.recast 0 (A' := wordsA (fun b => (lo ≤ b ∧ b < hi) ∨ D b) (kup f id ⟨c, p, g, k⟩)) rfl (fun k hk => hk) ?_
 intro j y h1
 unfold kup at h1
 by_cases q : j = id
 ·rw [if_pos q] at h1
  cases h1
  obtain ⟨U, u1, u2, u3⟩ := hd.at_
  have hb : g < hi := by
   rw [← u1]
   have h0 := u2.2 0
   rw [Array.getElem?_eq_getElem (by rw [wz_size]; exact hk)] at h0
   exact block_lt_of_cell h0
  exact ⟨.inl ⟨u2.1, hb⟩, fun i => (World.cell?_of_block (a := ⟨g, i, none⟩) (u3 g u2.1 hb)).trans (u2.2 i)⟩
 ·rw [if_neg q] at h1
  exact ⟨.inr (hr j y h1).1, (hr j y h1).2⟩
def VarRel (fv : Nat → Option VarD) (vs : Nat → Option (Nat × Nat × Nat)) : Prop := ∀ id, (fv id).map (fun x => (x.cls, x.ty, x.n)) = vs id
theorem VarRel.kup {fv : Nat → Option VarD} {vs : Nat → Option (Nat × Nat × Nat)} (h : VarRel fv vs) (id : Nat) (x : VarD) : VarRel (kup fv id x) (Go.Proofs.YtindnnbopaeklaaGreatDoor.kup vs id (x.cls, x.ty, x.n)) := fun j => by
 unfold Go.Proofs.YtindnnbopaeklaaGreatDoor.kup
 by_cases e : j = id
 ·rw [if_pos e, if_pos e]; rfl
 ·rw [if_neg e, if_neg e]; exact h j
structure PlIn (lo P T : Nat) (tab : Nat → Option TyD) (vs : Nat → Option (Nat × Nat × Nat)) (W : World) : Prop where
 at_ : ∃ mv fv Dm, lo ≤ P ∧ lo ≤ mv ∧ (∀ b, Dm b → lo ≤ b) ∧ W.cell? ⟨P, 0, none⟩ = some (.pointer (some ⟨T, 0, none⟩)) ∧ W.cell? ⟨P, 4, none⟩ = some (.map (some mv)) ∧ TbIn lo T tab W ∧ Mp (.int .u32) keyU (fun _ v x => v = encVr x) W mv fv ∧ VarRel fv vs ∧ (wordsA Dm fv).holds W ∧ ∀ b, Dm b → b < W.heap.size
theorem PlIn.keeps (P T : Nat) (tab : Nat → Option TyD) (vs : Nat → Option (Nat × Nat × Nat)) : Keeps (fun lo W => PlIn lo P T tab vs W) := fun lo W W' h hk => by
 obtain ⟨mv, fv, Dm, h1, h2, h3, h4, h5, h6, h7, h8, h9, h10⟩ := h.at_
 have zP := block_lt_of_cell h4
 have hz : ∀ k, lo ≤ k → k < W.heap.size → k < W'.heap.size := fun k a b => by
  have := hk k a b
  rw [Array.getElem?_eq_getElem b] at this
  exact (Array.getElem?_eq_some_iff.1 this).1
 exact ⟨mv, fv, Dm, h1, h2, h3, (World.cell?_of_block (a := ⟨P, 0, none⟩) (hk P h1 zP)).trans h4, (World.cell?_of_block (a := ⟨P, 4, none⟩) (hk P h1 zP)).trans h5, TbIn.keeps T tab lo W W' h6 hk, h7.other (hk mv h2 h7.lt) (fun _ _ e => e), h8, fun id x e => by
  obtain ⟨a, b⟩ := h9 id x e
  exact ⟨a, fun j => (World.cell?_of_block (a := ⟨x.at_, j, none⟩) (hk _ (h3 _ a) (h10 _ a))).trans (b j)⟩, fun b hb => hz b (h3 b hb) (h10 b hb)⟩
theorem PlIn.tb {lo P T : Nat} {tab : Nat → Option TyD} {vs : Nat → Option (Nat × Nat × Nat)} {W : World} (h : PlIn lo P T tab vs W) : TbIn lo T tab W := by
 obtain ⟨mv, fv, Dm, -, -, -, -, -, h6, -⟩ := h.at_
 exact h6
end Go.Proofs.YtindnnbopaeklaaGreatDoor
