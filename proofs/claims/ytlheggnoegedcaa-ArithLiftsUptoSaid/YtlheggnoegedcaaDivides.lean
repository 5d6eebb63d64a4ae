/- The walks of 'ArithDivides' and 'ArithOrders'. -/
import Derived.Test.YtlheggnoegedcaaBinlaw
namespace Go.Proofs.Ytlheggnoegedcaa
set_option linter.unusedVariables false
open Go.ChangeShapes Go.WideShapes Go.ChangeAt Go.RowKit
/-- A call of 'two'. -/
def Two (op a b x : Int) : Prop := ∀ w, Calls Try.prog 17 #[.int .u16 op, .int .u32 a, .int .u32 b] w fun e w' => e = .returned (.int .u32 x) ∧ Below w.heap.size w w'
theorem Two.call {op a b x : Int} (h : Two op a b x) (w : World) : Calls Try.prog 17 #[.int .u16 op, .int .u32 a, .int .u32 b] w fun e w' => e = .returned (.int .u32 x) ∧ Below w.heap.size w w' := h w
theorem two_any (op a b x : Int) (ha : 0 ≤ a) (ha' : a < 4294967296) (hb : 0 ≤ b) (hb' : b < 4294967296) (h : binS op a b = x) : Two op a b x := by
  intro w
  have c16 := binary_own op a b ha ha' hb hb'
  rw [h] at c16
  clear h
  go_enter Try.func17, Try.ntmps17
  go_wp2_with (go_at_call 16; refine (c16 _).mono ?_; rintro e w2 ⟨rfl, hB2⟩)
  go_ret
  exact ⟨rfl, hB2⟩
theorem lits (w : World) : Two 134 7 2 3 ∧ Two 135 4294967289 2 4294967293 ∧ Two 137 7 2 1 :=
  ⟨two_any _ _ _ _ (by decide) (by decide) (by decide) (by decide) (by decide), two_any _ _ _ _ (by decide) (by decide) (by decide) (by decide) (by decide), two_any _ _ _ _ (by decide) (by decide) (by decide) (by decide) (by decide)⟩
set_option maxRecDepth 100000 in
theorem divides_zero (a : Int) (ha : 0 ≤ a) (ha' : a < 4294967296) (w : World) :
    Calls Try.prog 6 #[.int .u32 a, .int .u32 0] w fun e w' => e = .returned (.bool true) ∧ Below w.heap.size w w' := by
  obtain ⟨l1, l2, l3⟩ := lits w
  have k1 := two_any 134 a 0 0 ha ha' (by decide) (by decide) rfl
  have k2 := two_any 135 a 0 0 ha ha' (by decide) (by decide) rfl
  have k3 := two_any 137 a 0 0 ha ha' (by decide) (by decide) rfl
  have k4 := two_any 138 a 0 0 ha ha' (by decide) (by decide) rfl
  have k5 := two_any 139 a 0 0 ha ha' (by decide) (by decide) rfl
  have hB := Below.refl w.heap.size w
  go_enter Try.func6, Try.ntmps6
  go_wp2_with (first | (go_at_call 17; (with_reducible refine (Two.call l1 _).mono ?_); rintro e w1 ⟨rfl, hn⟩; replace hB := bcall hB hn; clear hn) | (go_at_call 17; (with_reducible refine (Two.call l2 _).mono ?_); rintro e w1 ⟨rfl, hn⟩; replace hB := bcall hB hn; clear hn) | (go_at_call 17; (with_reducible refine (Two.call l3 _).mono ?_); rintro e w1 ⟨rfl, hn⟩; replace hB := bcall hB hn; clear hn) | (go_at_call 17; (with_reducible refine (Two.call k1 _).mono ?_); rintro e w1 ⟨rfl, hn⟩; replace hB := bcall hB hn; clear hn) | (go_at_call 17; (with_reducible refine (Two.call k2 _).mono ?_); rintro e w1 ⟨rfl, hn⟩; replace hB := bcall hB hn; clear hn) | (go_at_call 17; (with_reducible refine (Two.call k3 _).mono ?_); rintro e w1 ⟨rfl, hn⟩; replace hB := bcall hB hn; clear hn) | (go_at_call 17; (with_reducible refine (Two.call k4 _).mono ?_); rintro e w1 ⟨rfl, hn⟩; replace hB := bcall hB hn; clear hn) | (go_at_call 17; (with_reducible refine (Two.call k5 _).mono ?_); rintro e w1 ⟨rfl, hn⟩; replace hB := bcall hB hn; clear hn))
  go_ret
  exact ⟨rfl, hB⟩
theorem sq_lt (r t : Int) (h : r.natAbs < t.natAbs) : r * r < t * t := by
  have h1 : r * r = ((r.natAbs * r.natAbs : Nat) : Int) := (Int.natAbs_mul_self).symm
  have h2 : t * t = ((t.natAbs * t.natAbs : Nat) : Int) := (Int.natAbs_mul_self).symm
  rw [h1, h2]
  have := Nat.mul_self_lt_mul_self h
  omega
theorem sq_bd (r : Int) (h1 : -2147483648 ≤ r) (h2 : r ≤ 2147483648) : 0 ≤ r * r ∧ r * r ≤ 4611686018427387904 := by
  have h := mul_bd r r 2147483648 2147483648 (by omega) (by omega) (by omega) (by omega) (by omega)
  have h3 : r * r = ((r.natAbs * r.natAbs : Nat) : Int) := (Int.natAbs_mul_self).symm
  omega
/-- What the walk asks of the numbers: r is left over, d is that with the sign of t; s, t: the signed numbers. -/
def Parts (s t r d : Int) : Prop := (r = 0 ∧ d = 0) ∨ (r < 0 ∧ s < 0 ∧ t < 0 ∧ d = r) ∨ (r < 0 ∧ s < 0 ∧ 0 < t ∧ d = r + t) ∨ (0 < r ∧ 0 ≤ s ∧ t < 0 ∧ d = r + t) ∨ (0 < r ∧ 0 ≤ s ∧ 0 < t ∧ d = r)
theorem parts_of (s t : Int) (ht : t ≠ 0) : Parts s t (s.tmod t) (md s t) := by
  unfold Parts md
  rcases Int.lt_trichotomy (s.tmod t) 0 with c | c | c
  · have hs : s < 0 := by
      rcases Int.lt_or_le s 0 with h | h
      · exact h
      · have := Int.tmod_nonneg t h; omega
    rcases Int.lt_or_gt_of_ne ht with h | h
    · right; left; exact ⟨c, hs, h, by rw [if_neg]; simp [c, h]⟩
    · right; right; left; exact ⟨c, hs, h, by rw [if_pos]; exact ⟨by omega, by simp [c]; omega⟩⟩
  · left; exact ⟨c, by rw [if_neg]; exact c; simp [c]⟩
  · have hs : 0 ≤ s := by
      rcases Int.lt_or_le s 0 with h | h
      · have h1 := tmod_neg s t h
        have h2 : 0 ≤ (-s) % t := Int.emod_nonneg _ ht
        omega
      · exact h
    rcases Int.lt_or_gt_of_ne ht with h | h
    · right; right; right; left; exact ⟨c, hs, h, by rw [if_pos]; exact ⟨by omega, by simp [h]; omega⟩⟩
    · right; right; right; right; exact ⟨c, hs, h, by rw [if_neg]; simp; omega⟩
theorem sum_back (a b q r : Int) (ha : 0 ≤ a) (ha' : a < 4294967296) (h : b * q + r = a) : (q % 4294967296 * b % 4294967296 + r % 4294967296) % 4294967296 = a := by
  have h1 : q % 4294967296 * b % 4294967296 = q * b % 4294967296 := by rw [Int.mul_emod, Int.emod_emod_of_dvd _ (Int.dvd_refl _), ← Int.mul_emod]
  rw [h1, Int.mul_comm q b]
  omega
theorem sum_back_s (a b : Int) (ha : 0 ≤ a) (ha' : a < 4294967296) (hb : 0 ≤ b) (hb' : b < 4294967296) : ((sg a).tdiv (sg b) % 4294967296 * b % 4294967296 + (sg a).tmod (sg b) % 4294967296) % 4294967296 = a := by
  have h := Int.mul_tdiv_add_tmod (sg a) (sg b)
  generalize (sg a).tdiv (sg b) = q at h
  generalize (sg a).tmod (sg b) = r at h
  have h1 : q % 4294967296 * b % 4294967296 = q * sg b % 4294967296 := by
    have e2 : sg b % 4294967296 = b % 4294967296 := by unfold sg; split <;> omega
    rw [Int.mul_emod, Int.emod_emod_of_dvd _ (Int.dvd_refl _), ← e2, ← Int.mul_emod]
  rw [h1, Int.mul_comm q]
  have e3 : sg a % 4294967296 = a := by unfold sg; split <;> omega
  omega
theorem wrap32_mod (r : Int) (h1 : -2147483648 ≤ r) (h2 : r < 2147483648) : wrap32 (r % 4294967296) = r := by unfold wrap32; omega
set_option maxRecDepth 100000 in
set_option maxHeartbeats 2000000 in
theorem divides_any (a b : Int) (ha : 0 ≤ a) (ha' : a < 4294967296) (hb : 0 ≤ b) (hb' : b < 4294967296) (hne : b ≠ 0) (w : World) :
    Calls Try.prog 6 #[.int .u32 a, .int .u32 b] w fun e w' => e = .returned (.bool true) ∧ Below w.heap.size w w' := by
  obtain ⟨l1, l2, l3⟩ := lits w
  have hz : (b == 0) = false := by simpa using hne
  have s1 := sg_bd a ha ha'
  have s2 := sg_bd b hb hb'
  have sne := sg_ne hb hb' hne
  have ea := wrap32_sg a ha ha'
  have eb := wrap32_sg b hb hb'
  have hP := parts_of (sg a) (sg b) sne
  have hbk := sum_back_s a b ha ha' hb hb'
  have tb := tmod_bd (sg a) (sg b) sne s2.1 s2.2
  have hab : ((sg a).tmod (sg b)).natAbs < (sg b).natAbs := by rw [Int.natAbs_tmod]; exact Nat.mod_lt _ (by omega)
  have e34 : dvS 134 a b = a / b := by simp only [dvS, if_neg hne]; rfl
  have e35 : dvS 135 a b = (sg a).tdiv (sg b) % 4294967296 := by simp only [dvS, if_neg hne]; rfl
  have e37 : dvS 137 a b = a % b := by simp only [dvS, if_neg hne]; rfl
  have e38 : dvS 138 a b = (sg a).tmod (sg b) % 4294967296 := by simp only [dvS, if_neg hne]; rfl
  have e39 : dvS 139 a b = md (sg a) (sg b) % 4294967296 := by simp only [dvS, if_neg hne]; rfl
  have q1 := Int.ediv_nonneg ha hb
  have q2 := Int.ediv_le_self b ha
  have q3 := Int.emod_nonneg a hne
  have q4 := Int.emod_lt_of_pos a (show 0 < b by omega)
  have q5 : b * (a / b) + a % b = a := by have := Int.emod_add_mul_ediv a b; omega
  have sb := sum_back a b (a / b) (a % b) ha ha' q5
  rw [Int.emod_eq_of_lt q1 (by omega : a / b < 4294967296), Int.emod_eq_of_lt q3 (by omega : a % b < 4294967296)] at sb
  -- the calls
  have k1 := two_any 134 a b (a / b) ha ha' hb hb' e34
  have k2 := two_any 132 (a / b) b (a / b * b % 4294967296) q1 (by omega) hb hb' rfl
  have k3 := two_any 137 a b (a % b) ha ha' hb hb' e37
  have k4 := two_any 128 (a / b * b % 4294967296) (a % b) a (by omega) (by omega) q3 (by omega) sb
  have k5 := two_any 135 a b _ ha ha' hb hb' e35
  have k6 := two_any 132 ((sg a).tdiv (sg b) % 4294967296) b _ (by omega) (by omega) hb hb' rfl
  have k7 := two_any 138 a b _ ha ha' hb hb' e38
  have k8 := two_any 128 ((sg a).tdiv (sg b) % 4294967296 * b % 4294967296) ((sg a).tmod (sg b) % 4294967296) a (by omega) (by omega) (by omega) (by omega) hbk
  have k9 := two_any 139 a b _ ha ha' hb hb' e39
  change Two 132 _ b ((sg a).tdiv (sg b) % 4294967296 * b % 4294967296) at k6
  clear e34 e35 e37 e38 e39 q2 q5 sb hbk hne
  -- names
  generalize a / b * b % 4294967296 = x2 at k2 k4
  generalize (sg a).tdiv (sg b) % 4294967296 * b % 4294967296 = y2 at k6 k8
  generalize (sg a).tdiv (sg b) % 4294967296 = y1 at k5 k6
  generalize a / b = x1 at k1 k2 q1
  generalize a % b = x3 at k3 k4 q3 q4
  have er : wrap32 ((sg a).tmod (sg b) % 4294967296) = (sg a).tmod (sg b) := wrap32_mod _ (by omega) (by omega)
  have dbd : -2147483647 ≤ md (sg a) (sg b) ∧ md (sg a) (sg b) ≤ 2147483647 ∧ (md (sg a) (sg b)).natAbs < (sg b).natAbs := by
    generalize md (sg a) (sg b) = d at hP
    generalize (sg a).tmod (sg b) = r at hP hab tb
    generalize sg b = t at hP hab s2 sne
    unfold Parts at hP
    omega
  have ed : wrap32 (md (sg a) (sg b) % 4294967296) = md (sg a) (sg b) := wrap32_mod _ (by omega) (by omega)
  generalize (sg a).tmod (sg b) % 4294967296 = y3 at k7 k8 er
  generalize md (sg a) (sg b) % 4294967296 = z at k9 ed
  generalize md (sg a) (sg b) = d at hP dbd ed
  generalize (sg a).tmod (sg b) = r at hP hab tb er
  generalize sg a = s at hP s1 ea
  generalize sg b = t at hP hab s2 sne eb dbd
  have g1 := sq_bd r (by omega) (by omega)
  have g2 := sq_bd t (by omega) (by omega)
  have g3 := sq_bd d (by omega) (by omega)
  have f1 := sq_lt r t hab
  have f2 := sq_lt d t dbd.2.2
  have d1 : decide (t * t ≤ r * r) = false := by simp; omega
  have d2 : decide (t * t ≤ d * d) = false := by simp; omega
  have hB := Below.refl w.heap.size w
  have tb2 := dbd.1
  have tb3 := dbd.2.1
  clear dbd f1 f2
  unfold Parts at hP
  rcases hP with ⟨rfl, rfl⟩ | ⟨p1, p2, p3, rfl⟩ | ⟨p1, p2, p3, rfl⟩ | ⟨p1, p2, p3, rfl⟩ | ⟨p1, p2, p3, rfl⟩
  · have d3 : decide (t * t ≤ 0) = false := by simpa using d1
    clear hab d1 d2 g1 g3
    go_enter Try.func6, Try.ntmps6
    go_wp2_with (first | (go_at_call 17; (with_reducible refine (Two.call l1 _).mono ?_); rintro e w1 ⟨rfl, hn⟩; replace hB := bcall hB hn; clear hn) | (go_at_call 17; (with_reducible refine (Two.call l2 _).mono ?_); rintro e w1 ⟨rfl, hn⟩; replace hB := bcall hB hn; clear hn) | (go_at_call 17; (with_reducible refine (Two.call l3 _).mono ?_); rintro e w1 ⟨rfl, hn⟩; replace hB := bcall hB hn; clear hn) | (go_at_call 17; (with_reducible refine (Two.call k1 _).mono ?_); rintro e w1 ⟨rfl, hn⟩; replace hB := bcall hB hn; clear hn) | (go_at_call 17; (with_reducible refine (Two.call k2 _).mono ?_); rintro e w1 ⟨rfl, hn⟩; replace hB := bcall hB hn; clear hn) | (go_at_call 17; (with_reducible refine (Two.call k3 _).mono ?_); rintro e w1 ⟨rfl, hn⟩; replace hB := bcall hB hn; clear hn) | (go_at_call 17; (with_reducible refine (Two.call k4 _).mono ?_); rintro e w1 ⟨rfl, hn⟩; replace hB := bcall hB hn; clear hn) | (go_at_call 17; (with_reducible refine (Two.call k5 _).mono ?_); rintro e w1 ⟨rfl, hn⟩; replace hB := bcall hB hn; clear hn) | (go_at_call 17; (with_reducible refine (Two.call k6 _).mono ?_); rintro e w1 ⟨rfl, hn⟩; replace hB := bcall hB hn; clear hn) | (go_at_call 17; (with_reducible refine (Two.call k7 _).mono ?_); rintro e w1 ⟨rfl, hn⟩; replace hB := bcall hB hn; clear hn) | (go_at_call 17; (with_reducible refine (Two.call k8 _).mono ?_); rintro e w1 ⟨rfl, hn⟩; replace hB := bcall hB hn; clear hn) | (go_at_call 17; (with_reducible refine (Two.call k9 _).mono ?_); rintro e w1 ⟨rfl, hn⟩; replace hB := bcall hB hn; clear hn))
    go_ret
    exact ⟨rfl, hB⟩
  · have p0 : (d != 0) = true := by simp; omega
    have p4 : decide (d < 0) = true := by simp; omega
    have p5 : decide (s < 0) = true := by simp; omega
    have p6 : decide (t < 0) = true := by simp; omega
    have p9 : (d == 0) = false := by simp; omega
    clear hab
    go_enter Try.func6, Try.ntmps6
    go_wp2_with (first | (go_at_call 17; (with_reducible refine (Two.call l1 _).mono ?_); rintro e w1 ⟨rfl, hn⟩; replace hB := bcall hB hn; clear hn) | (go_at_call 17; (with_reducible refine (Two.call l2 _).mono ?_); rintro e w1 ⟨rfl, hn⟩; replace hB := bcall hB hn; clear hn) | (go_at_call 17; (with_reducible refine (Two.call l3 _).mono ?_); rintro e w1 ⟨rfl, hn⟩; replace hB := bcall hB hn; clear hn) | (go_at_call 17; (with_reducible refine (Two.call k1 _).mono ?_); rintro e w1 ⟨rfl, hn⟩; replace hB := bcall hB hn; clear hn) | (go_at_call 17; (with_reducible refine (Two.call k2 _).mono ?_); rintro e w1 ⟨rfl, hn⟩; replace hB := bcall hB hn; clear hn) | (go_at_call 17; (with_reducible refine (Two.call k3 _).mono ?_); rintro e w1 ⟨rfl, hn⟩; replace hB := bcall hB hn; clear hn) | (go_at_call 17; (with_reducible refine (Two.call k4 _).mono ?_); rintro e w1 ⟨rfl, hn⟩; replace hB := bcall hB hn; clear hn) | (go_at_call 17; (with_reducible refine (Two.call k5 _).mono ?_); rintro e w1 ⟨rfl, hn⟩; replace hB := bcall hB hn; clear hn) | (go_at_call 17; (with_reducible refine (Two.call k6 _).mono ?_); rintro e w1 ⟨rfl, hn⟩; replace hB := bcall hB hn; clear hn) | (go_at_call 17; (with_reducible refine (Two.call k7 _).mono ?_); rintro e w1 ⟨rfl, hn⟩; replace hB := bcall hB hn; clear hn) | (go_at_call 17; (with_reducible refine (Two.call k8 _).mono ?_); rintro e w1 ⟨rfl, hn⟩; replace hB := bcall hB hn; clear hn) | (go_at_call 17; (with_reducible refine (Two.call k9 _).mono ?_); rintro e w1 ⟨rfl, hn⟩; replace hB := bcall hB hn; clear hn))
    go_ret
    exact ⟨rfl, hB⟩
  · have p0 : (r != 0) = true := by simp; omega
    have p4 : decide (r < 0) = true := by simp; omega
    have p5 : decide (s < 0) = true := by simp; omega
    have p6 : decide (t < 0) = false := by simp; omega
    have p7 : (r + t == 0) = false := by simp; omega
    have p8 : decide ((r + t) < 0) = false := by simp; omega
    clear hab
    go_enter Try.func6, Try.ntmps6
    go_wp2_with (first | (go_at_call 17; (with_reducible refine (Two.call l1 _).mono ?_); rintro e w1 ⟨rfl, hn⟩; replace hB := bcall hB hn; clear hn) | (go_at_call 17; (with_reducible refine (Two.call l2 _).mono ?_); rintro e w1 ⟨rfl, hn⟩; replace hB := bcall hB hn; clear hn) | (go_at_call 17; (with_reducible refine (Two.call l3 _).mono ?_); rintro e w1 ⟨rfl, hn⟩; replace hB := bcall hB hn; clear hn) | (go_at_call 17; (with_reducible refine (Two.call k1 _).mono ?_); rintro e w1 ⟨rfl, hn⟩; replace hB := bcall hB hn; clear hn) | (go_at_call 17; (with_reducible refine (Two.call k2 _).mono ?_); rintro e w1 ⟨rfl, hn⟩; replace hB := bcall hB hn; clear hn) | (go_at_call 17; (with_reducible refine (Two.call k3 _).mono ?_); rintro e w1 ⟨rfl, hn⟩; replace hB := bcall hB hn; clear hn) | (go_at_call 17; (with_reducible refine (Two.call k4 _).mono ?_); rintro e w1 ⟨rfl, hn⟩; replace hB := bcall hB hn; clear hn) | (go_at_call 17; (with_reducible refine (Two.call k5 _).mono ?_); rintro e w1 ⟨rfl, hn⟩; replace hB := bcall hB hn; clear hn) | (go_at_call 17; (with_reducible refine (Two.call k6 _).mono ?_); rintro e w1 ⟨rfl, hn⟩; replace hB := bcall hB hn; clear hn) | (go_at_call 17; (with_reducible refine (Two.call k7 _).mono ?_); rintro e w1 ⟨rfl, hn⟩; replace hB := bcall hB hn; clear hn) | (go_at_call 17; (with_reducible refine (Two.call k8 _).mono ?_); rintro e w1 ⟨rfl, hn⟩; replace hB := bcall hB hn; clear hn) | (go_at_call 17; (with_reducible refine (Two.call k9 _).mono ?_); rintro e w1 ⟨rfl, hn⟩; replace hB := bcall hB hn; clear hn))
    go_ret
    refine ⟨ret_bool ?_, hB⟩
    have hm : r - (r + t) = -t := by omega
    rw [hm]; simp
  · have p0 : (r != 0) = true := by simp; omega
    have p4 : decide (r < 0) = false := by simp; omega
    have p5 : decide (s < 0) = false := by simp; omega
    have p6 : decide (t < 0) = true := by simp; omega
    have p7 : (r + t == 0) = false := by simp; omega
    have p8 : decide ((r + t) < 0) = true := by simp; omega
    clear hab
    go_enter Try.func6, Try.ntmps6
    go_wp2_with (first | (go_at_call 17; (with_reducible refine (Two.call l1 _).mono ?_); rintro e w1 ⟨rfl, hn⟩; replace hB := bcall hB hn; clear hn) | (go_at_call 17; (with_reducible refine (Two.call l2 _).mono ?_); rintro e w1 ⟨rfl, hn⟩; replace hB := bcall hB hn; clear hn) | (go_at_call 17; (with_reducible refine (Two.call l3 _).mono ?_); rintro e w1 ⟨rfl, hn⟩; replace hB := bcall hB hn; clear hn) | (go_at_call 17; (with_reducible refine (Two.call k1 _).mono ?_); rintro e w1 ⟨rfl, hn⟩; replace hB := bcall hB hn; clear hn) | (go_at_call 17; (with_reducible refine (Two.call k2 _).mono ?_); rintro e w1 ⟨rfl, hn⟩; replace hB := bcall hB hn; clear hn) | (go_at_call 17; (with_reducible refine (Two.call k3 _).mono ?_); rintro e w1 ⟨rfl, hn⟩; replace hB := bcall hB hn; clear hn) | (go_at_call 17; (with_reducible refine (Two.call k4 _).mono ?_); rintro e w1 ⟨rfl, hn⟩; replace hB := bcall hB hn; clear hn) | (go_at_call 17; (with_reducible refine (Two.call k5 _).mono ?_); rintro e w1 ⟨rfl, hn⟩; replace hB := bcall hB hn; clear hn) | (go_at_call 17; (with_reducible refine (Two.call k6 _).mono ?_); rintro e w1 ⟨rfl, hn⟩; replace hB := bcall hB hn; clear hn) | (go_at_call 17; (with_reducible refine (Two.call k7 _).mono ?_); rintro e w1 ⟨rfl, hn⟩; replace hB := bcall hB hn; clear hn) | (go_at_call 17; (with_reducible refine (Two.call k8 _).mono ?_); rintro e w1 ⟨rfl, hn⟩; replace hB := bcall hB hn; clear hn) | (go_at_call 17; (with_reducible refine (Two.call k9 _).mono ?_); rintro e w1 ⟨rfl, hn⟩; replace hB := bcall hB hn; clear hn))
    go_ret
    refine ⟨ret_bool ?_, hB⟩
    have hm : r - (r + t) = -t := by omega
    rw [hm]; simp
  · have p0 : (d != 0) = true := by simp; omega
    have p4 : decide (d < 0) = false := by simp; omega
    have p5 : decide (s < 0) = false := by simp; omega
    have p6 : decide (t < 0) = false := by simp; omega
    have p9 : (d == 0) = false := by simp; omega
    clear hab
    go_enter Try.func6, Try.ntmps6
    go_wp2_with (first | (go_at_call 17; (with_reducible refine (Two.call l1 _).mono ?_); rintro e w1 ⟨rfl, hn⟩; replace hB := bcall hB hn; clear hn) | (go_at_call 17; (with_reducible refine (Two.call l2 _).mono ?_); rintro e w1 ⟨rfl, hn⟩; replace hB := bcall hB hn; clear hn) | (go_at_call 17; (with_reducible refine (Two.call l3 _).mono ?_); rintro e w1 ⟨rfl, hn⟩; replace hB := bcall hB hn; clear hn) | (go_at_call 17; (with_reducible refine (Two.call k1 _).mono ?_); rintro e w1 ⟨rfl, hn⟩; replace hB := bcall hB hn; clear hn) | (go_at_call 17; (with_reducible refine (Two.call k2 _).mono ?_); rintro e w1 ⟨rfl, hn⟩; replace hB := bcall hB hn; clear hn) | (go_at_call 17; (with_reducible refine (Two.call k3 _).mono ?_); rintro e w1 ⟨rfl, hn⟩; replace hB := bcall hB hn; clear hn) | (go_at_call 17; (with_reducible refine (Two.call k4 _).mono ?_); rintro e w1 ⟨rfl, hn⟩; replace hB := bcall hB hn; clear hn) | (go_at_call 17; (with_reducible refine (Two.call k5 _).mono ?_); rintro e w1 ⟨rfl, hn⟩; replace hB := bcall hB hn; clear hn) | (go_at_call 17; (with_reducible refine (Two.call k6 _).mono ?_); rintro e w1 ⟨rfl, hn⟩; replace hB := bcall hB hn; clear hn) | (go_at_call 17; (with_reducible refine (Two.call k7 _).mono ?_); rintro e w1 ⟨rfl, hn⟩; replace hB := bcall hB hn; clear hn) | (go_at_call 17; (with_reducible refine (Two.call k8 _).mono ?_); rintro e w1 ⟨rfl, hn⟩; replace hB := bcall hB hn; clear hn) | (go_at_call 17; (with_reducible refine (Two.call k9 _).mono ?_); rintro e w1 ⟨rfl, hn⟩; replace hB := bcall hB hn; clear hn))
    go_ret
    exact ⟨rfl, hB⟩
theorem walk_divides (a b : Int) (ha : 0 ≤ a) (ha' : a < 4294967296) (hb : 0 ≤ b) (hb' : b < 4294967296) (w : World) :
    Calls Try.prog 6 #[.int .u32 a, .int .u32 b] w fun e w' => e = .returned (.bool true) ∧ Below w.heap.size w w' := by
  by_cases h : b = 0
  · subst h; exact divides_zero a ha ha' w
  · exact divides_any a b ha ha' hb hb' h w
end Go.Proofs.Ytlheggnoegedcaa
