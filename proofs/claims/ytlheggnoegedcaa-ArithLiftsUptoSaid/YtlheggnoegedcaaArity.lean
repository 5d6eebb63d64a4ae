/- How many words an operation takes: the program's answer, and the reference's. The laws 'ArithUnary' and 'ArithRing'. -/
import Derived.Test.YtlheggnoegedcaaUnlaw
import Derived.Test.YtlheggnoegedcaaDivides
namespace Go.Proofs.Ytlheggnoegedcaa
set_option linter.unusedVariables false
open Go.ChangeShapes Go.WideShapes Go.ChangeAt Go.RowKit
/-- Has it two answers? -/
def isPr (op : Int) : Bool := op == 149 || op == 150 || op == 151 || op == 152
theorem pr_is (op a b : Int) : (pairS op a b).2.2 = isPr op := by
  unfold pairS isPr
  by_cases h1 : op = 149
  · subst h1; rfl
  by_cases h2 : op = 150
  · subst h2; rfl
  by_cases h3 : op = 151
  · subst h3; rfl
  by_cases h4 : op = 152
  · subst h4; rfl
  simp [h1, h2, h3, h4]
theorem at_some (n : Int) (l : List (Int × Value)) : (at_ n l).isSome = l.any (fun p => n == p.1) := by
  induction l with
  | nil => rfl
  | cons p l ih =>
    obtain ⟨m, v⟩ := p
    by_cases h : n = m
    · simp [at_, h]
    · simp [at_, h, ih]
theorem at_mem (n : Int) (l : List (Int × Value)) (v : Value) (h : at_ n l = some v) : ∃ p ∈ l, p.2 = v := by
  induction l with
  | nil => cases h
  | cons p l ih =>
    obtain ⟨m, u⟩ := p
    by_cases e : n = m
    · simp only [at_, if_pos e, Option.some.injEq] at h
      exact ⟨_, List.mem_cons_self, h⟩
    · simp only [at_, if_neg e] at h
      obtain ⟨q, hq, hv⟩ := ih h
      exact ⟨q, List.mem_cons_of_mem _ hq, hv⟩
/-- A function's value. -/
def IsF (v : Value) : Prop := ∃ n c, v = .func (.func n) #[] c
theorem one_case (op : Int) : (isUn op = false ∧ at_ op oneL = none) ∨ (isUn op = true ∧ ∃ n c, at_ op oneL = some (.func (.func n) #[] c)) := by
  have h := at_some op oneL
  have e : oneL.any (fun p => op == p.1) = isUn op := by simp [oneL, isUn, Bool.or_assoc]
  rw [e] at h
  cases g : at_ op oneL with
  | none => left; rw [g] at h; exact ⟨h.symm, rfl⟩
  | some v =>
    right; rw [g] at h
    refine ⟨h.symm, ?_⟩
    obtain ⟨p, hp, hv⟩ := at_mem op oneL v g
    simp only [oneL, List.mem_cons, List.mem_nil_iff, or_false] at hp
    rcases hp with rfl | rfl | rfl | rfl | rfl | rfl | rfl <;> exact ⟨_, _, by rw [← hv]⟩
theorem two_case (op : Int) (B : Nat) : (isBin op = false ∧ at_ op (twoL B) = none) ∨ (isBin op = true ∧ ∃ n c, at_ op (twoL B) = some (.func (.func n) #[] c)) := by
  have h := at_some op (twoL B)
  have e : (twoL B).any (fun p => op == p.1) = isBin op := by simp [twoL, isBin, Bool.or_assoc]
  rw [e] at h
  cases g : at_ op (twoL B) with
  | none => left; rw [g] at h; exact ⟨h.symm, rfl⟩
  | some v =>
    right; rw [g] at h
    refine ⟨h.symm, ?_⟩
    obtain ⟨p, hp, hv⟩ := at_mem op (twoL B) v g
    simp only [twoL, List.mem_cons, List.mem_nil_iff, or_false] at hp
    rcases hp with rfl | rfl | rfl | rfl | rfl | rfl | rfl | rfl | rfl | rfl | rfl | rfl | rfl | rfl | rfl | rfl | rfl | rfl | rfl | rfl | rfl | rfl | rfl | rfl | rfl | rfl | rfl | rfl <;> exact ⟨_, _, by rw [← hv]⟩
theorem pr_case (op : Int) : (isPr op = false ∧ at_ op pairL = none) ∨ (isPr op = true ∧ ∃ n c, at_ op pairL = some (.func (.func n) #[] c)) := by
  have h := at_some op pairL
  have e : pairL.any (fun p => op == p.1) = isPr op := by simp [pairL, isPr, Bool.or_assoc]
  rw [e] at h
  cases g : at_ op pairL with
  | none => left; rw [g] at h; exact ⟨h.symm, rfl⟩
  | some v =>
    right; rw [g] at h
    refine ⟨h.symm, ?_⟩
    obtain ⟨p, hp, hv⟩ := at_mem op pairL v g
    simp only [pairL, List.mem_cons, List.mem_nil_iff, or_false] at hp
    rcases hp with rfl | rfl | rfl | rfl <;> exact ⟨_, _, by rw [← hv]⟩
/-- What a look into a map of functions says. -/
def Look (t : TypeId) (op : Int) (r : Nat) (v : Value) (w : World) : Prop := (Instr.lookup t (.map (some r)) (.int .u16 op) false).run Try.prog w = .ok v w
theorem ones_look (op : Int) (v : Value) (h : (at_ op oneL).getD .nilFunc = v) (w : World) :
    Calls Try.prog 37 #[] w fun e w' => ∃ r, e = .returned (.map (some r)) ∧ Look 66 op r v w' ∧ Below w.heap.size w w' := by
  refine (ones_any w).mono ?_
  rintro e w' ⟨rfl, rfl⟩
  refine ⟨_, rfl, ?_, bal (Below.refl _ _) _⟩
  cases g : at_ op oneL with
  | none => rw [g] at h; subst h; exact look_none (P := Try.prog) 66 22 65 .u16 op .nilFunc oneL w Try.underlying66 Try.underlying22 zero65 g
  | some u => rw [g] at h; subst h; exact look_some (P := Try.prog) 66 22 65 .u16 op _ oneL w Try.underlying66 Try.underlying22 g
theorem twos_look (op : Int) (v : Nat → Value) (h : ∀ B, (at_ op (twoL B)).getD .nilFunc = v B) (w : World) :
    Calls Try.prog 36 #[] w fun e w' => ∃ r, e = .returned (.map (some r)) ∧ Look 62 op r (v w.heap.size) w' ∧ Below w.heap.size w w' := by
  refine (twos_any w).mono ?_
  rintro e w' ⟨rfl, rfl⟩
  refine ⟨_, rfl, ?_, twoW_below w⟩
  have h := h w.heap.size
  unfold Look
  rw [← twoW_size]
  cases g : at_ op (twoL w.heap.size) with
  | none => rw [g] at h; rw [← h]; exact look_none (P := Try.prog) 62 22 61 .u16 op .nilFunc (twoL w.heap.size) _ Try.underlying62 Try.underlying22 zero61 g
  | some u => rw [g] at h; rw [← h]; exact look_some (P := Try.prog) 62 22 61 .u16 op _ (twoL w.heap.size) _ Try.underlying62 Try.underlying22 g
theorem pairs_look (op : Int) (v : Value) (h : (at_ op pairL).getD .nilFunc = v) (w : World) :
    Calls Try.prog 32 #[] w fun e w' => ∃ r, e = .returned (.map (some r)) ∧ Look 57 op r v w' ∧ Below w.heap.size w w' := by
  refine (pairs_any w).mono ?_
  rintro e w' ⟨rfl, rfl⟩
  refine ⟨_, rfl, ?_, bal (Below.refl _ _) _⟩
  cases g : at_ op pairL with
  | none => rw [g] at h; subst h; exact look_none (P := Try.prog) 57 22 56 .u16 op .nilFunc pairL w Try.underlying57 Try.underlying22 zero56 g
  | some u => rw [g] at h; subst h; exact look_some (P := Try.prog) 57 22 56 .u16 op _ pairL w Try.underlying57 Try.underlying22 g
theorem neq_nil (t : TypeId) (h : t = 65 ∨ t = 61 ∨ t = 56) (w : World) : (binOp BinOp.neq t .nilFunc .nilFunc).run Try.prog w = .ok (.bool false) w := by
  rcases h with rfl | rfl | rfl <;> kernel_rfl
theorem neq_fv (t : TypeId) (h : t = 65 ∨ t = 61 ∨ t = 56) (n : Nat) (c : Array Value) (w : World) : (binOp BinOp.neq t (.func (.func n) #[] c) .nilFunc).run Try.prog w = .ok (.bool true) w := by
  rcases h with rfl | rfl | rfl <;> kernel_rfl
/-- How many words an operation takes. -/
def arS (op : Int) : Int :=
  if op = 154 ∨ op = 155 then 1 else if op = 169 ∨ op = 202 ∨ op = 203 then 3 else if op = 201 then 4
  else if isUn op then 1 else if isBin op || isPr op then 2 else 0

theorem ar_own (op : Int) (h1 : (op == 154) = false) (h2 : (op == 155) = false) (h3 : (op == 169) = false) (h4 : (op == 202) = false) (h5 : (op == 203) = false) (h6 : (op == 201) = false) (w : World) :
    Calls Try.prog 20 #[.int .u16 op] w fun e w' => e = .returned (.int .i64 (if isUn op then 1 else if isBin op || isPr op then 2 else 0)) ∧ Below w.heap.size w w' := by
  have hB := Below.refl w.heap.size w
  have q1 := neq_nil 65 (by simp)
  have q2 := neq_nil 61 (by simp)
  have q3 := neq_nil 56 (by simp)
  rcases one_case op with ⟨g1, c1⟩ | ⟨g1, n1, v1, c1⟩
  · have k1 := ones_look op .nilFunc (by rw [c1]; rfl)
    clear c1
    rcases two_case op 0 with ⟨g2, c2⟩ | ⟨g2, n2, v2, c2⟩
    · have k2 := twos_look op (fun _ => .nilFunc) (fun B => by
        rcases two_case op B with ⟨_, c⟩ | ⟨g, _⟩
        · rw [c]; rfl
        · rw [g] at g2; cases g2)
      clear c2
      rcases pr_case op with ⟨g3, c3⟩ | ⟨g3, n3, v3, c3⟩
      · have k3 := pairs_look op .nilFunc (by rw [c3]; rfl)
        rw [g1, g2, g3]
        clear c3 g1 g2 g3
        go_enter Try.func20, Try.ntmps20
        go_wp2_with (first | (go_at_call 37; refine (k1 _).mono ?_; rintro e w1 ⟨r1, rfl, hl1, hn⟩; unfold Look at hl1; replace hB := bcall hB hn; clear hn) | (go_at_call 36; refine (k2 _).mono ?_; rintro e w2 ⟨r2, rfl, hl2, hn⟩; unfold Look at hl2; replace hB := bcall hB hn; clear hn) | (go_at_call 32; refine (k3 _).mono ?_; rintro e w3 ⟨r3, rfl, hl3, hn⟩; unfold Look at hl3; replace hB := bcall hB hn; clear hn))
        go_ret
        exact ⟨rfl, hB⟩
      · have k3 := pairs_look op (.func (.func n3) #[] v3) (by rw [c3]; rfl)
        have q := neq_fv 56 (by simp) n3 v3
        rw [g1, g2, g3]
        clear c3 g1 g2 g3
        go_enter Try.func20, Try.ntmps20
        go_wp2_with (first | (go_at_call 37; refine (k1 _).mono ?_; rintro e w1 ⟨r1, rfl, hl1, hn⟩; unfold Look at hl1; replace hB := bcall hB hn; clear hn) | (go_at_call 36; refine (k2 _).mono ?_; rintro e w2 ⟨r2, rfl, hl2, hn⟩; unfold Look at hl2; replace hB := bcall hB hn; clear hn) | (go_at_call 32; refine (k3 _).mono ?_; rintro e w3 ⟨r3, rfl, hl3, hn⟩; unfold Look at hl3; replace hB := bcall hB hn; clear hn))
        go_ret
        exact ⟨rfl, hB⟩
    · obtain ⟨f, hf⟩ : ∃ f : Nat → Nat × Array Value, ∀ B, at_ op (twoL B) = some (.func (.func (f B).1) #[] (f B).2) :=
        ⟨fun B => match at_ op (twoL B) with | some (.func (.func n) _ c) => (n, c) | _ => (0, #[]), fun B => by
          rcases two_case op B with ⟨g, _⟩ | ⟨_, n, c, hc⟩
          · rw [g] at g2; cases g2
          · simp only [hc]⟩
      have k2 := twos_look op (fun B => .func (.func (f B).1) #[] (f B).2) (fun B => by rw [hf]; rfl)
      have q := fun B => neq_fv 61 (by simp) (f B).1 (f B).2
      rw [g1, g2]
      clear c2 g1 g2 hf
      go_enter Try.func20, Try.ntmps20
      go_wp2_with (first | (go_at_call 37; refine (k1 _).mono ?_; rintro e w1 ⟨r1, rfl, hl1, hn⟩; unfold Look at hl1; replace hB := bcall hB hn; clear hn) | (go_at_call 36; refine (k2 _).mono ?_; rintro e w2 ⟨r2, rfl, hl2, hn⟩; unfold Look at hl2; replace hB := bcall hB hn; clear hn) | (go_at_call 32; refine (k3 _).mono ?_; rintro e w3 ⟨r3, rfl, hl3, hn⟩; unfold Look at hl3; replace hB := bcall hB hn; clear hn))
      go_ret
      exact ⟨rfl, hB⟩
  · have k1 := ones_look op (.func (.func n1) #[] v1) (by rw [c1]; rfl)
    have q := neq_fv 65 (by simp) n1 v1
    rw [g1]
    clear c1 g1
    go_enter Try.func20, Try.ntmps20
    go_wp2_with (first | (go_at_call 37; refine (k1 _).mono ?_; rintro e w1 ⟨r1, rfl, hl1, hn⟩; unfold Look at hl1; replace hB := bcall hB hn; clear hn) | (go_at_call 36; refine (k2 _).mono ?_; rintro e w2 ⟨r2, rfl, hl2, hn⟩; unfold Look at hl2; replace hB := bcall hB hn; clear hn) | (go_at_call 32; refine (k3 _).mono ?_; rintro e w3 ⟨r3, rfl, hl3, hn⟩; unfold Look at hl3; replace hB := bcall hB hn; clear hn))
    go_ret
    exact ⟨rfl, hB⟩
theorem arity_own (op : Int) (w : World) : Calls Try.prog 20 #[.int .u16 op] w fun e w' => e = .returned (.int .i64 (arS op)) ∧ Below w.heap.size w w' := by
  by_cases h154 : op = 154
  · subst h154
    have e1 : arS 154 = 1 := rfl
    rw [e1]
    go_enter Try.func20, Try.ntmps20
    go_wp2
    go_ret
    exact ⟨rfl, Below.refl _ _⟩
  by_cases h155 : op = 155
  · subst h155
    have e1 : arS 155 = 1 := rfl
    rw [e1]
    go_enter Try.func20, Try.ntmps20
    go_wp2
    go_ret
    exact ⟨rfl, Below.refl _ _⟩
  by_cases h169 : op = 169
  · subst h169
    have e1 : arS 169 = 3 := rfl
    rw [e1]
    go_enter Try.func20, Try.ntmps20
    go_wp2
    go_ret
    exact ⟨rfl, Below.refl _ _⟩
  by_cases h202 : op = 202
  · subst h202
    have e1 : arS 202 = 3 := rfl
    rw [e1]
    go_enter Try.func20, Try.ntmps20
    go_wp2
    go_ret
    exact ⟨rfl, Below.refl _ _⟩
  by_cases h203 : op = 203
  · subst h203
    have e1 : arS 203 = 3 := rfl
    rw [e1]
    go_enter Try.func20, Try.ntmps20
    go_wp2
    go_ret
    exact ⟨rfl, Below.refl _ _⟩
  by_cases h201 : op = 201
  · subst h201
    have e1 : arS 201 = 4 := rfl
    rw [e1]
    go_enter Try.func20, Try.ntmps20
    go_wp2
    go_ret
    exact ⟨rfl, Below.refl _ _⟩
  have e : arS op = if isUn op then 1 else if isBin op || isPr op then 2 else 0 := by simp [arS, h154, h155, h169, h202, h203, h201]
  rw [e]
  exact ar_own op (by simpa using h154) (by simpa using h155) (by simpa using h169) (by simpa using h202) (by simpa using h203) (by simpa using h201) w
theorem arity_ref (op : Int) (w : World) : Calls Try.prog 21 #[.int .u16 op] w fun e w' => e = .returned (.int .i64 (arS op)) ∧ Below w.heap.size w w' := by
  have c1 := unary_ref op 0 (by decide) (by decide)
  have c2 := binary_ref op 0 0 (by decide) (by decide) (by decide) (by decide)
  have c3 := pair_ref op 0 0 (by decide) (by decide) (by decide) (by decide)
  have hp := pr_is op 0 0
  simp only [three, hp] at c3
  clear hp
  have hB := Below.refl w.heap.size w
  have fin : ∀ u b p : Bool, isUn op = u → isBin op = b → isPr op = p → Calls Try.prog 21 #[.int .u16 op] w fun e w' => e = .returned (.int .i64 (arS op)) ∧ Below w.heap.size w w' := by
    intro u b p hu hb hp
    rw [hu] at c1
    rw [hb] at c2
    rw [hp] at c3
    generalize unS op 0 = x1 at c1
    generalize binS op 0 0 = x2 at c2
    generalize (pairS op 0 0).1 = x3 at c3
    generalize (pairS op 0 0).2.1 = x4 at c3
    by_cases h154 : op = 154
    · subst h154
      have e1 : arS 154 = 1 := rfl
      obtain rfl : false = u := hu
      obtain rfl : false = b := hb
      obtain rfl : false = p := hp
      rw [e1]
      clear e1
      go_enter Try.func21, Try.ntmps21
      go_wp2_with (first | (go_at_call 19; refine (c1 _).mono ?_; rintro e w1 ⟨rfl, hn⟩; replace hB := bcall hB hn; clear hn) | (go_at_call 15; refine (c2 _).mono ?_; rintro e w1 ⟨rfl, hn⟩; replace hB := bcall hB hn; clear hn) | (go_at_call 13; refine (c3 _).mono ?_; rintro e w1 ⟨rfl, rfl⟩))
      go_ret
      exact ⟨rfl, hB⟩
    by_cases h155 : op = 155
    · subst h155
      have e1 : arS 155 = 1 := rfl
      obtain rfl : false = u := hu
      obtain rfl : false = b := hb
      obtain rfl : false = p := hp
      rw [e1]
      clear e1
      go_enter Try.func21, Try.ntmps21
      go_wp2_with (first | (go_at_call 19; refine (c1 _).mono ?_; rintro e w1 ⟨rfl, hn⟩; replace hB := bcall hB hn; clear hn) | (go_at_call 15; refine (c2 _).mono ?_; rintro e w1 ⟨rfl, hn⟩; replace hB := bcall hB hn; clear hn) | (go_at_call 13; refine (c3 _).mono ?_; rintro e w1 ⟨rfl, rfl⟩))
      go_ret
      exact ⟨rfl, hB⟩
    by_cases h169 : op = 169
    · subst h169
      have e1 : arS 169 = 3 := rfl
      obtain rfl : false = u := hu
      obtain rfl : false = b := hb
      obtain rfl : false = p := hp
      rw [e1]
      clear e1
      go_enter Try.func21, Try.ntmps21
      go_wp2_with (first | (go_at_call 19; refine (c1 _).mono ?_; rintro e w1 ⟨rfl, hn⟩; replace hB := bcall hB hn; clear hn) | (go_at_call 15; refine (c2 _).mono ?_; rintro e w1 ⟨rfl, hn⟩; replace hB := bcall hB hn; clear hn) | (go_at_call 13; refine (c3 _).mono ?_; rintro e w1 ⟨rfl, rfl⟩))
      go_ret
      exact ⟨rfl, hB⟩
    by_cases h202 : op = 202
    · subst h202
      have e1 : arS 202 = 3 := rfl
      obtain rfl : false = u := hu
      obtain rfl : false = b := hb
      obtain rfl : false = p := hp
      rw [e1]
      clear e1
      go_enter Try.func21, Try.ntmps21
      go_wp2_with (first | (go_at_call 19; refine (c1 _).mono ?_; rintro e w1 ⟨rfl, hn⟩; replace hB := bcall hB hn; clear hn) | (go_at_call 15; refine (c2 _).mono ?_; rintro e w1 ⟨rfl, hn⟩; replace hB := bcall hB hn; clear hn) | (go_at_call 13; refine (c3 _).mono ?_; rintro e w1 ⟨rfl, rfl⟩))
      go_ret
      exact ⟨rfl, hB⟩
    by_cases h203 : op = 203
    · subst h203
      have e1 : arS 203 = 3 := rfl
      obtain rfl : false = u := hu
      obtain rfl : false = b := hb
      obtain rfl : false = p := hp
      rw [e1]
      clear e1
      go_enter Try.func21, Try.ntmps21
      go_wp2_with (first | (go_at_call 19; refine (c1 _).mono ?_; rintro e w1 ⟨rfl, hn⟩; replace hB := bcall hB hn; clear hn) | (go_at_call 15; refine (c2 _).mono ?_; rintro e w1 ⟨rfl, hn⟩; replace hB := bcall hB hn; clear hn) | (go_at_call 13; refine (c3 _).mono ?_; rintro e w1 ⟨rfl, rfl⟩))
      go_ret
      exact ⟨rfl, hB⟩
    by_cases h201 : op = 201
    · subst h201
      have e1 : arS 201 = 4 := rfl
      obtain rfl : false = u := hu
      obtain rfl : false = b := hb
      obtain rfl : false = p := hp
      rw [e1]
      clear e1
      go_enter Try.func21, Try.ntmps21
      go_wp2_with (first | (go_at_call 19; refine (c1 _).mono ?_; rintro e w1 ⟨rfl, hn⟩; replace hB := bcall hB hn; clear hn) | (go_at_call 15; refine (c2 _).mono ?_; rintro e w1 ⟨rfl, hn⟩; replace hB := bcall hB hn; clear hn) | (go_at_call 13; refine (c3 _).mono ?_; rintro e w1 ⟨rfl, rfl⟩))
      go_ret
      exact ⟨rfl, hB⟩
    have e : arS op = if u then 1 else if b || p then 2 else 0 := by simp [arS, h154, h155, h169, h202, h203, h201, hu, hb, hp]
    rw [e]
    have g154 : (op == 154) = false := by simpa using h154
    have g155 : (op == 155) = false := by simpa using h155
    have g169 : (op == 169) = false := by simpa using h169
    have g202 : (op == 202) = false := by simpa using h202
    have g203 : (op == 203) = false := by simpa using h203
    have g201 : (op == 201) = false := by simpa using h201
    clear hu hb hp e h154 h155 h169 h202 h203 h201
    cases u <;> cases b <;> cases p
    all_goals
      go_enter Try.func21, Try.ntmps21
      go_wp2_with (first | (go_at_call 19; refine (c1 _).mono ?_; rintro e w1 ⟨rfl, hn⟩; replace hB := bcall hB hn; clear hn) | (go_at_call 15; refine (c2 _).mono ?_; rintro e w1 ⟨rfl, hn⟩; replace hB := bcall hB hn; clear hn) | (go_at_call 13; refine (c3 _).mono ?_; rintro e w1 ⟨rfl, rfl⟩))
      go_ret
      exact ⟨rfl, hB⟩
  exact fin _ _ _ rfl rfl rfl
theorem walk_unary (op a : Int) (ha : 0 ≤ a) (ha' : a < 4294967296) (w : World) :
    Calls Try.prog 9 #[.int .u16 op, .int .u32 a] w fun e w' => e = .returned (.bool true) ∧ Below w.heap.size w w' := by
  have c1 := unary_ref op a ha ha'
  have c2 := unary_own op a ha ha'
  have c3 := arity_ref op
  have c4 := arity_own op
  generalize unS op a = x at c1 c2
  generalize isUn op = u at c1 c2
  generalize arS op = n at c3 c4
  have hB := Below.refl w.heap.size w
  go_enter Try.func9, Try.ntmps9
  go_wp2_with (first | (go_at_call 19; refine (c1 _).mono ?_; rintro e w1 ⟨rfl, hn⟩; replace hB := bcall hB hn; clear hn) | (go_at_call 18; refine (c2 _).mono ?_; rintro e w1 ⟨rfl, hn⟩; replace hB := bcall hB hn; clear hn) | (go_at_call 21; refine (c3 _).mono ?_; rintro e w1 ⟨rfl, hn⟩; replace hB := bcall hB hn; clear hn) | (go_at_call 20; refine (c4 _).mono ?_; rintro e w1 ⟨rfl, hn⟩; replace hB := bcall hB hn; clear hn))
  go_ret
  exact ⟨rfl, hB⟩
end Go.Proofs.Ytlheggnoegedcaa
