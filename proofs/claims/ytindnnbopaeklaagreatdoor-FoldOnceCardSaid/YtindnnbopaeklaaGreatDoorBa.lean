/- Consts: New. -/
import Derived.Test.YtindnnbopaeklaaGreatDoorAz
namespace Go.Proofs.YtindnnbopaeklaaGreatDoor
set_option linter.unusedVariables false
set_option linter.unusedSimpArgs false
set_option maxRecDepth 100000
set_option maxHeartbeats 4000000
open Go.RowKit Go.MapKept
theorem TbIn.lower {lo lo' T : Nat} {tab : Nat → Option TyD} {W : World} (h : TbIn lo T tab W) (hl : lo' ≤ lo) : TbIn lo' T tab W := by
 obtain ⟨al, f, Dm, h1, h2, h3, h4⟩ := h.at_
 exact ⟨al, f, Dm, by omega, by omega, fun k hk => Nat.le_trans hl (h3 k hk), h4⟩
theorem makers_none {P op : Nat} (h : op ∉ [1, 41, 42, 43, 44, 46, 59]) : makersF P op = none := by
 simp only [List.mem_cons, List.not_mem_nil, or_false, not_or] at h
 unfold makersF kup
 simp [h]
end Go.Proofs.YtindnnbopaeklaaGreatDoor
