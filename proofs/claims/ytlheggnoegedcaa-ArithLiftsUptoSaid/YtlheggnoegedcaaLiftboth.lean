/- Rows: both sides answer alike. -/
import Derived.Test.YtlheggnoegedcaaLiftanswer
namespace Go.Proofs.Ytlheggnoegedcaa
set_option linter.unusedVariables false
open Go.ChangeShapes Go.WideShapes Go.ChangeAt Go.RowKit
/-- What both say: so many words, and whether it is refused. -/
def Says (F : Nat) (op : Int) (m : Nat) (n : Nat → Nat) (g : Nat → Nat → Int) (k : Nat) (er : Int) (f : Nat → Int) : Prop :=
  ∀ (a : Option Addr) (A : Nat → Option Addr) (cap : Nat) (c : Nat → Nat) (w : World), Rws w a m A n c g →
    Calls Try.prog F #[.int .u16 op, .slice a m cap] w fun e w' => (∃ v, e = .returned (.tuple #[v, .int .i64 er]) ∧ w'.ownsRow w.heap.size 23 1 v k (wl f k)) ∧ Below w.heap.size w w'
theorem says_none {F : Nat} {op : Int} {m : Nat} {n : Nat → Nat} {g : Nat → Nat → Int}
    (h : ∀ (a : Option Addr) (A : Nat → Option Addr) (cap : Nat) (c : Nat → Nat) (w : World), Rws w a m A n c g →
      Calls Try.prog F #[.int .u16 op, .slice a m cap] w fun e w' => e = .returned (.tuple #[.slice none 0 0, .int .i64 2]) ∧ Below w.heap.size w w') : Says F op m n g 0 2 (fun _ => 0) :=
  fun a A cap c w hr => (h a A cap c w hr).mono fun e w' ⟨he, hb⟩ => ⟨⟨_, he, World.ownsRow_nil _ _ _ _⟩, hb⟩
theorem liLen_le (op : Int) (m n : Nat) (h : n ≤ 1048576) : liLen op m n ≤ 2097152 := by
  unfold liLen
  split
  · omega
  · split <;> omega
theorem says_both (op : Int) (m : Nat) (n : Nat → Nat) (g : Nat → Nat → Int) (hmany : m ≤ 1048576) (hfew : ∀ i, i < m → n i ≤ 1048576) :
    ∃ (k : Nat) (er : Int) (f : Nat → Int), k ≤ 2097152 ∧ Says 25 op m n g k er f ∧ Says 26 op m n g k er f := by
  by_cases hz : m = 0
  · subst hz
    exact ⟨0, 2, fun _ => 0, by omega, says_none fun a A cap c w hr => lift_ref_arity op a 0 cap w (.inr rfl) (by omega), says_none fun a A cap c w hr => lift_own_none op a cap w⟩
  by_cases hm : (m : Int) = arS op
  · by_cases hev : ∃ i, i < m ∧ n i ≠ n 0
    · refine ⟨0, 2, fun _ => 0, by omega, says_none fun a A cap c w hr => lift_ref_uneven op a m cap A n c g w hr hm (by omega) hev, says_none fun a A cap c w hr => ?_⟩
      obtain ⟨b, o, rfl, hb, hc⟩ := hr.at_ (by omega)
      exact lift_own_uneven op b o m cap A n c w hb hc hmany hm (by omega) hev
    · have he : ∀ i, i < m → n i = n 0 := fun i hi => Classical.byContradiction fun e => hev ⟨i, hi, e⟩
      have h0 := hfew 0 (by omega)
      refine ⟨liLen op m (n 0), 0, liW op m (n 0) g, liLen_le op m _ h0, fun a A cap c w hr => ?_, fun a A cap c w hr => ?_⟩
      all_goals
        obtain ⟨b, o, rfl, hb, hc⟩ := hr.at_ (by omega)
        have hc' : ∀ i, i < m → w.cell? ⟨b, o + i, none⟩ = some (.slice (A i) (n 0) (c i)) := fun i hi => by rw [← he i hi]; exact hc i hi
        have hw' : ∀ i, i < m → Wd w (A i) (n 0) (g i) := fun i hi => by rw [← he i hi]; exact hr.words i hi
      · exact lift_ref_rows op b o m cap A (n 0) c g w hmany h0 hb hc' hw' hm (by omega)
      · exact lift_own_rows op b o m cap A (n 0) c g w hmany h0 hb hc' hw' hm (by omega)
  · exact ⟨0, 2, fun _ => 0, by omega, says_none fun a A cap c w hr => lift_ref_arity op a m cap w (.inl hm) hmany, says_none fun a A cap c w hr => lift_own_arity op a m cap w hm hz hmany⟩
end Go.Proofs.Ytlheggnoegedcaa
