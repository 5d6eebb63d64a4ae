/- Face: what the checker reads; class, number, function; calls.Len, Reached. -/
import Derived.Test.YtindnnbopaeklaaGreatDoorBa
import Derived.Test.YtindnnbopaeklaaGreatDoorBb
import Derived.Test.YtindnnbopaeklaaGreatDoorAu
import Derived.Test.YtindnnbopaeklaaGreatDoorAf
import Derived.Test.YtindnnbopaeklaaGreatDoorAk
namespace Go.Proofs.YtindnnbopaeklaaGreatDoor
set_option linter.unusedVariables false
set_option linter.unusedSimpArgs false
set_option maxRecDepth 100000
set_option maxHeartbeats 4000000
open Go.RowKit Go.MapKept
structure DcD where
 at_ : Nat
 room : Nat
 k : Nat
def encDc (x : DcD) : Value := .slice (some ⟨x.at_, 0, none⟩) 1 x.room
def fcCells (i : In) (s : Option Addr × Nat) : Array Value := #[.int .u16 i.op, .int .u32 i.ty, .int .u32 i.res, .slice s.1 i.args.length s.2]
def decA (l : List In) (sv : Nat → Option Addr × Nat) (D : Nat → Prop) (f : Nat → Option DcD) : As := ⟨D, fun W => ∀ id x, f id = some x → D x.at_ ∧ ∀ j, j < 4 → W.cell? ⟨x.at_, j, none⟩ = (fcCells (l.getD x.k noIn) (sv x.k))[j]?, fun W W' h hk id x e => by
 obtain ⟨a, b⟩ := h id x e
 exact ⟨a, fun j hj => (World.cell?_of_block (a := ⟨x.at_, j, none⟩) (hk _ a)).trans (b j hj)⟩⟩
structure Fkr (K P T C gf gc gd b o cap b2 cb id lab y st en : Nat) (l : List In) (sv : Nat → Option Addr × Nat) (tab : Nat → Option TyD) (vs : Nat → Option (Nat × Nat × Nat)) (fk : Nat → Option Nat) (W : World) : Prop where
 c0 : W.cell? ⟨K, 0, none⟩ = some (.pointer (some ⟨P, 0, none⟩))
 c1 : W.cell? ⟨K, 1, none⟩ = some (.pointer (some ⟨T, 0, none⟩))
 c2 : W.cell? ⟨K, 2, none⟩ = some (.pointer (some ⟨C, 0, none⟩))
 c3 : W.cell? ⟨K, 3, none⟩ = some (.slice (some ⟨gf, 0, none⟩) 1 gc)
 c4 : W.cell? ⟨K, 4, none⟩ = some (.slice (some ⟨b, o, none⟩) l.length cap)
 c5 : W.cell? ⟨K, 5, none⟩ = some (.map (some gd))
 pl : ∃ lo, PlIn lo P T tab vs W
 ca : ∃ lo, CaIn C lo W
 fq : ∃ lo, FnQ gf b2 cb id lab y st en lo W
 ms : Ms W b o l sv
 dc : ∃ f D, Mp (.int .u32) keyU (fun _ v x => v = encDc x) W gd f ∧ (decA l sv D f).holds W ∧ (∀ k, D k → k < W.heap.size) ∧ ∀ id, (f id).map (·.k) = fk id
theorem Fkr.below {K P T C gf gc gd b o cap b2 cb id lab y st en : Nat} {l : List In} {sv : Nat → Option Addr × Nat} {tab : Nat → Option TyD} {vs : Nat → Option (Nat × Nat × Nat)} {fk : Nat → Option Nat} {W W' : World} (h : Fkr K P T C gf gc gd b o cap b2 cb id lab y st en l sv tab vs fk W) (hb : Below W.heap.size W W') : Fkr K P T C gf gc gd b o cap b2 cb id lab y st en l sv tab vs fk W' := by
 have z := block_lt_of_cell h.c0
 obtain ⟨l1, h1⟩ := h.pl
 obtain ⟨l2, h2⟩ := h.ca
 obtain ⟨l3, h3⟩ := h.fq
 obtain ⟨f, D, h4, h5, h6, h7⟩ := h.dc
 exact ⟨cell_last h.c0 z hb, cell_last h.c1 z hb, cell_last h.c2 z hb, cell_last h.c3 z hb, cell_last h.c4 z hb, cell_last h.c5 z hb, ⟨l1, (PlIn.keeps P T tab vs).below h1 hb⟩, ⟨l2, h2.below hb⟩, ⟨l3, (fnkeeps _ _ _ _ _ _ _ _).below h3 hb⟩, h.ms.below hb, ⟨f, D, h4.other (hb.block _ h4.lt) (fun _ _ e => e), (decA l sv D f).loc _ _ h5 (fun k hk => hb.block k (h6 k hk)), fun k hk => Nat.lt_of_lt_of_le (h6 k hk) hb.size, h7⟩⟩
section
variable {K P T C gf gc gd b o cap b2 cb id lab y st en : Nat} {l : List In} {sv : Nat → Option Addr × Nat} {tab : Nat → Option TyD} {vs : Nat → Option (Nat × Nat × Nat)} {fk : Nat → Option Nat} {w : World}
end
section
variable {K P T C gf gc gd b o cap b2 cb id lab y st en : Nat} {l : List In} {sv : Nat → Option Addr × Nat} {tab : Nat → Option TyD} {vs : Nat → Option (Nat × Nat × Nat)} {fk : Nat → Option Nat} {w : World}
end
structure PtD where
 v : Nat
 loc : Int
 bi : Int
 ty : Nat
 sz : Nat
 sg : Bool
structure PtAt (w : World) (g i : Nat) (x : PtD) : Prop where
 c0 : w.cell? ⟨g, i, none⟩ = some (.int .u32 x.v)
 c1 : w.cell? ⟨g, i + 1, none⟩ = some (.int .i64 x.loc)
 c2 : w.cell? ⟨g, i + 2, none⟩ = some (.int .i64 x.bi)
 c3 : w.cell? ⟨g, i + 3, none⟩ = some (.int .u32 x.ty)
 c4 : w.cell? ⟨g, i + 4, none⟩ = some (.int .i64 x.sz)
 c5 : w.cell? ⟨g, i + 5, none⟩ = some (.bool x.sg)
theorem PtAt.below {w w' : World} {g i : Nat} {x : PtD} (h : PtAt w g i x) (hb : Below w.heap.size w w') : PtAt w' g i x := by
 have z := block_lt_of_cell h.c0
 exact ⟨cell_last h.c0 z hb, cell_last h.c1 z hb, cell_last h.c2 z hb, cell_last h.c3 z hb, cell_last h.c4 z hb, cell_last h.c5 z hb⟩
end Go.Proofs.YtindnnbopaeklaaGreatDoor
