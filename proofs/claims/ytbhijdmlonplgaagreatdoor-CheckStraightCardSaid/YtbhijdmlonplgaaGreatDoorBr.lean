/- Face: rules. -/
import Derived.Test.YtbhijdmlonplgaaGreatDoorAf
import Derived.Test.YtbhijdmlonplgaaGreatDoorAh
import Derived.Test.YtbhijdmlonplgaaGreatDoorBi
import Derived.Test.YtbhijdmlonplgaaGreatDoorBj
import Derived.Test.YtbhijdmlonplgaaGreatDoorAq
namespace Go.Proofs.YtbhijdmlonplgaaGreatDoor
set_option linter.unusedVariables false
set_option linter.unusedSimpArgs false
set_option maxRecDepth 100000
set_option maxHeartbeats 4000000
open Go.RowKit
def hrule (K : Nat) (f : Nat) : Value := .func (.func f) #[.pointer (some ⟨K, 0, none⟩)] #[]
theorem frules_15 (K : Nat) (w : World) : Calls Tryz.prog 143 #[.pointer (some ⟨K, 0, none⟩), .int .u16 15] w fun e w' => ∃ g, e = .returned (.slice (some ⟨g, 0, none⟩) 3 3) ∧ Own noX w [cls g #[hrule K 213, .int .i64 200, hrule K 214, .int .i64 201, hrule K 215, .int .i64 202] 272] w' := by
 have HO := Own.nil w
 go_enter Tryz.func143, Tryz.ntmps143
 go_wp2_with (first | ((first | (with_reducible refine sp_al HO ?_; intro g hg; rw [← hg.out]; clear hg) | (with_reducible refine sp_alc HO ?_; intro g hg; rw [← hg.out]; clear hg) | (with_reducible refine sp_sk HO ?_) | (with_reducible refine sp_skc HO ?_)); intro W' HO'; clear HO; (try clear kk); have HO := HO'; clear HO'; (try simp only [zTz, zTs, zTa] at HO); (try have kk := HO.kk); skip))
 go_ret
 exact ⟨_, rfl, HO.alloc _⟩
theorem frules_71 (K : Nat) (w : World) : Calls Tryz.prog 143 #[.pointer (some ⟨K, 0, none⟩), .int .u16 71] w fun e w' => ∃ g, e = .returned (.slice (some ⟨g, 0, none⟩) 1 1) ∧ Own noX w [cls g #[hrule K 217, .int .i64 202] 272] w' := by
 have HO := Own.nil w
 go_enter Tryz.func143, Tryz.ntmps143
 go_wp2_with (first | ((first | (with_reducible refine sp_al HO ?_; intro g hg; rw [← hg.out]; clear hg) | (with_reducible refine sp_alc HO ?_; intro g hg; rw [← hg.out]; clear hg) | (with_reducible refine sp_sk HO ?_) | (with_reducible refine sp_skc HO ?_)); intro W' HO'; clear HO; (try clear kk); have HO := HO'; clear HO'; (try simp only [zTz, zTs, zTa] at HO); (try have kk := HO.kk); skip))
 go_ret
 exact ⟨_, rfl, HO.alloc _⟩
theorem frules_none (K op : Nat) (w : World) (h1 : op ≠ 15) (h2 : op ≠ 16) (h3 : op ≠ 71) (h4 : op ≠ 252) : Calls Tryz.prog 143 #[.pointer (some ⟨K, 0, none⟩), .int .u16 op] w fun e w' => e = .returned (.slice none 0 0) ∧ w' = w := by
 have i1 : ((op : Int) == 15) = false := by rw [beq_eq_false_iff_ne]; omega
 have i2 : ((op : Int) == 16) = false := by rw [beq_eq_false_iff_ne]; omega
 have i3 : ((op : Int) == 71) = false := by rw [beq_eq_false_iff_ne]; omega
 have i4 : ((op : Int) == 252) = false := by rw [beq_eq_false_iff_ne]; omega
 clear h1 h2 h3 h4
 go_enter Tryz.func143, Tryz.ntmps143
 go_wp2_with fail
 go_ret
 exact ⟨rfl, rfl⟩
theorem fcheck_own (K b o cap : Nat) (l : List In) (sv : Nat → Option Addr × Nat) (w : World) (g4 : w.cell? ⟨K, 4, none⟩ = some (.slice (some ⟨b, o, none⟩) l.length cap)) (hM : Ms w b o l sv) (hn : l.length ≤ 2000)
  (c1 : ∀ k (hk : k < l.length), l[k].op = 15 → ∀ W, Below w.heap.size w W → Calls Tryz.prog 213 #[.pointer (some ⟨K, 0, none⟩), .int .i64 k] W fun e w' => e = .returned (.bool true) ∧ Below W.heap.size W w')
  (c2 : ∀ k (hk : k < l.length), l[k].op = 15 → ∀ W, Below w.heap.size w W → Calls Tryz.prog 214 #[.pointer (some ⟨K, 0, none⟩), .int .i64 k] W fun e w' => e = .returned (.bool true) ∧ Below W.heap.size W w')
  (c3 : ∀ k (hk : k < l.length), l[k].op = 15 → ∀ W, Below w.heap.size w W → Calls Tryz.prog 215 #[.pointer (some ⟨K, 0, none⟩), .int .i64 k] W fun e w' => e = .returned (.bool true) ∧ Below W.heap.size W w')
  (c4 : ∀ k (hk : k < l.length), l[k].op = 71 → ∀ W, Below w.heap.size w W → Calls Tryz.prog 217 #[.pointer (some ⟨K, 0, none⟩), .int .i64 k] W fun e w' => e = .returned (.bool true) ∧ Below W.heap.size W w')
  (n16 : ∀ k (hk : k < l.length), l[k].op ≠ 16) (n252 : ∀ k (hk : k < l.length), l[k].op ≠ 252) :
  Calls Tryz.prog 91 #[.pointer (some ⟨K, 0, none⟩)] w fun e w' => e = .returned (.agg #[.int .i64 0, .int .i64 0]) ∧ Below w.heap.size w w' := by
 have HO := Own.nil w
 have HM := hid hM
 have zK := block_lt_of_cell g4
 have H1 := hid c1
 have H2 := hid c2
 have H3 := hid c3
 have H4 := hid c4
 have N1 := hid n16
 have N2 := hid n252
 clear hM c1 c2 c3 c4 n16 n252
 go_enter Tryz.func91, Tryz.ntmps91
 go_wp2_with (first | ((first | (with_reducible refine sp_al HO ?_; intro g hg; rw [← hg.out]; clear hg) | (with_reducible refine sp_alc HO ?_; intro g hg; rw [← hg.out]; clear hg) | (with_reducible refine sp_sk HO ?_) | (with_reducible refine sp_skc HO ?_) | (refine sp_wk HO rfl 34 _ _ rfl rfl rfl (by kernel_rfl) (by rfl) (by simp [Value.oneCell']) ?_)); intro W' HO'; clear HO; (try clear kk); have HO := HO'; clear HO'; (try simp only [zTz, zTs, zTa] at HO); (try have kk := HO.kk); skip))
 (try clear kk); skip
 obtain ⟨gR, rfl⟩ : ∃ q, q = g := ⟨_, rfl⟩
 have H0 := hid HO
 clear HO
 go_loopw [3, 12] (fun _ x12 wv => ∃ k : Nat, k ≤ l.length ∧ x12 = .int .i64 k ∧ Own noX w [cls gR #[.int .i64 0, .int .i64 0] 34] wv) (fun _ x _ => l.length - (intOf x).toNat)
 case atStart => exact ⟨0, by omega, rfl, H0.out⟩
 case round =>
  obtain ⟨k, hk, rfl, HO⟩ := hrel
  clear H0
  by_cases hkl : k < l.length
  ·have hMM := HM.out.below HO.below
   have e0 := hMM.op k hkl
   have e1 := hMM.ty k hkl
   have e2 := hMM.res k hkl
   have e3 := hMM.args k hkl
   have zb := hMM.lt
   have n16 := N1.out k hkl
   have n252 := N2.out k hkl
   have c1 := H1.out k hkl
   have c2 := H2.out k hkl
   have c3 := H3.out k hkl
   have c4 := H4.out k hkl
   clear hMM
   have i4 : (k : Int) < l.length := by omega
   have HK := hid hkl
   generalize l[k] = i at e0 e1 e2 e3 n16 n252 c1 c2 c3 c4
   generalize sv k = s at e3
   obtain ⟨sa, sc⟩ := s
   simp only at e3
   clear hkl hk
   by_cases h15 : i.op = 15
   ·replace c1 := c1 h15
    replace c2 := c2 h15
    replace c3 := c3 h15
    rw [h15] at e0
    replace e0 : wr.cell? ⟨b, o + k * 4, none⟩ = some (.int .u16 15) := e0
    clear c4 n16 n252
    (try simp only [zTz, zTs, zTa, zDs, zDz] at HO); (try have kk := HO.kk); skip
    go_wp2_with (first | ((first | (with_reducible refine sp_al HO ?_; intro g hg; rw [← hg.out]; clear hg) | (with_reducible refine sp_alc HO ?_; intro g hg; rw [← hg.out]; clear hg) | (with_reducible refine sp_sk HO ?_) | (with_reducible refine sp_skc HO ?_) | (refine sp_wk HO rfl 41 _ _ rfl rfl rfl (by kernel_rfl) (by rfl) (by simp [Value.oneCell']) ?_)); intro W' HO'; clear HO; (try clear kk); have HO := HO'; clear HO'; (try simp only [zTz, zTs, zTa] at HO); (try have kk := HO.kk); skip) | (go_at_call 143; (with_reducible refine (frules_15 K _).mono ?_); rintro e w1 ⟨gr, rfl, h2⟩; unfold hrule at h2; replace HO := HO.app h2; clear h2; (try simp only [List.cons_append, List.nil_append] at HO); (try clear kk); skip; (try simp only [zTz, zTs, zTa, zDs, zDz] at HO); (try have kk := HO.kk); skip))
    refine wp_loop_rounds 4 ?_
    rw [rounds_succ]
    go_wp2_with (first | ((first | (with_reducible refine sp_al HO ?_; intro g hg; rw [← hg.out]; clear hg) | (with_reducible refine sp_alc HO ?_; intro g hg; rw [← hg.out]; clear hg) | (with_reducible refine sp_sk HO ?_) | (with_reducible refine sp_skc HO ?_) | (refine sp_wk HO rfl 272 _ _ rfl rfl rfl (by kernel_rfl) (by rfl) (by simp [Value.oneCell']) ?_)); intro W' HO'; clear HO; (try clear kk); have HO := HO'; clear HO'; (try simp only [zTz, zTs, zTa] at HO); (try have kk := HO.kk); skip) | (go_at_call 213; (with_reducible refine (c1 _ HO.below).mono ?_); rintro e w1 ⟨rfl, hn⟩; replace HO := HO.then hn; clear hn; (try clear kk); skip; (try simp only [zTz, zTs, zTa, zDs, zDz] at HO); (try have kk := HO.kk); skip))
    rw [rounds_succ]
    go_wp2_with (first | ((first | (with_reducible refine sp_al HO ?_; intro g hg; rw [← hg.out]; clear hg) | (with_reducible refine sp_alc HO ?_; intro g hg; rw [← hg.out]; clear hg) | (with_reducible refine sp_sk HO ?_) | (with_reducible refine sp_skc HO ?_) | (refine sp_wk HO rfl 272 _ _ rfl rfl rfl (by kernel_rfl) (by rfl) (by simp [Value.oneCell']) ?_)); intro W' HO'; clear HO; (try clear kk); have HO := HO'; clear HO'; (try simp only [zTz, zTs, zTa] at HO); (try have kk := HO.kk); skip) | (go_at_call 214; (with_reducible refine (c2 _ HO.below).mono ?_); rintro e w1 ⟨rfl, hn⟩; replace HO := HO.then hn; clear hn; (try clear kk); skip; (try simp only [zTz, zTs, zTa, zDs, zDz] at HO); (try have kk := HO.kk); skip))
    rw [rounds_succ]
    go_wp2_with (first | ((first | (with_reducible refine sp_al HO ?_; intro g hg; rw [← hg.out]; clear hg) | (with_reducible refine sp_alc HO ?_; intro g hg; rw [← hg.out]; clear hg) | (with_reducible refine sp_sk HO ?_) | (with_reducible refine sp_skc HO ?_) | (refine sp_wk HO rfl 272 _ _ rfl rfl rfl (by kernel_rfl) (by rfl) (by simp [Value.oneCell']) ?_)); intro W' HO'; clear HO; (try clear kk); have HO := HO'; clear HO'; (try simp only [zTz, zTs, zTa] at HO); (try have kk := HO.kk); skip) | (go_at_call 215; (with_reducible refine (c3 _ HO.below).mono ?_); rintro e w1 ⟨rfl, hn⟩; replace HO := HO.then hn; clear hn; (try clear kk); skip; (try simp only [zTz, zTs, zTa, zDs, zDz] at HO); (try have kk := HO.kk); skip))
    rw [rounds_succ]
    go_wp2_with fail
    exact ⟨⟨k + 1, HK.out, by go_num, HO.sub (.cons _ (.cons _ (.cons _ (.cons _ (.cons _ (List.Sublist.refl _))))))⟩, by have := HK.out; simp [intOf]; omega⟩
   ·have j15 : ((i.op : Int) == 15) = false := by rw [beq_eq_false_iff_ne]; omega
    clear c1 c2 c3
    by_cases h71 : i.op = 71
    ·replace c4 := c4 h71
     rw [h71] at e0
     replace e0 : wr.cell? ⟨b, o + k * 4, none⟩ = some (.int .u16 71) := e0
     clear n16 n252 j15
     (try simp only [zTz, zTs, zTa, zDs, zDz] at HO); (try have kk := HO.kk); skip
     go_wp2_with (first | ((first | (with_reducible refine sp_al HO ?_; intro g hg; rw [← hg.out]; clear hg) | (with_reducible refine sp_alc HO ?_; intro g hg; rw [← hg.out]; clear hg) | (with_reducible refine sp_sk HO ?_) | (with_reducible refine sp_skc HO ?_) | (refine sp_wk HO rfl 41 _ _ rfl rfl rfl (by kernel_rfl) (by rfl) (by simp [Value.oneCell']) ?_)); intro W' HO'; clear HO; (try clear kk); have HO := HO'; clear HO'; (try simp only [zTz, zTs, zTa] at HO); (try have kk := HO.kk); skip) | (go_at_call 143; (with_reducible refine (frules_71 K _).mono ?_); rintro e w1 ⟨gr, rfl, h2⟩; unfold hrule at h2; replace HO := HO.app h2; clear h2; (try simp only [List.cons_append, List.nil_append] at HO); (try clear kk); skip; (try simp only [zTz, zTs, zTa, zDs, zDz] at HO); (try have kk := HO.kk); skip))
     refine wp_loop_rounds 2 ?_
     rw [rounds_succ]
     go_wp2_with (first | ((first | (with_reducible refine sp_al HO ?_; intro g hg; rw [← hg.out]; clear hg) | (with_reducible refine sp_alc HO ?_; intro g hg; rw [← hg.out]; clear hg) | (with_reducible refine sp_sk HO ?_) | (with_reducible refine sp_skc HO ?_) | (refine sp_wk HO rfl 272 _ _ rfl rfl rfl (by kernel_rfl) (by rfl) (by simp [Value.oneCell']) ?_)); intro W' HO'; clear HO; (try clear kk); have HO := HO'; clear HO'; (try simp only [zTz, zTs, zTa] at HO); (try have kk := HO.kk); skip) | (go_at_call 217; (with_reducible refine (c4 _ HO.below).mono ?_); rintro e w1 ⟨rfl, hn⟩; replace HO := HO.then hn; clear hn; (try clear kk); skip; (try simp only [zTz, zTs, zTa, zDs, zDz] at HO); (try have kk := HO.kk); skip))
     rw [rounds_succ]
     go_wp2_with fail
     exact ⟨⟨k + 1, HK.out, by go_num, HO.sub (.cons _ (.cons _ (.cons _ (List.Sublist.refl _))))⟩, by have := HK.out; simp [intOf]; omega⟩
    ·clear c4
     have cR := frules_none K i.op
     (try simp only [zTz, zTs, zTa, zDs, zDz] at HO); (try have kk := HO.kk); skip
     go_wp2_with (first | ((first | (with_reducible refine sp_al HO ?_; intro g hg; rw [← hg.out]; clear hg) | (with_reducible refine sp_alc HO ?_; intro g hg; rw [← hg.out]; clear hg) | (with_reducible refine sp_sk HO ?_) | (with_reducible refine sp_skc HO ?_) | (refine sp_wk HO rfl 41 _ _ rfl rfl rfl (by kernel_rfl) (by rfl) (by simp [Value.oneCell']) ?_)); intro W' HO'; clear HO; (try clear kk); have HO := HO'; clear HO'; (try simp only [zTz, zTs, zTa] at HO); (try have kk := HO.kk); skip) | (go_at_call 143; (with_reducible refine (cR _ h15 n16 h71 n252).mono ?_); rintro e w1 ⟨rfl, rfl⟩))
     refine wp_loop_rounds 1 ?_
     rw [rounds_succ]
     go_wp2_with fail
     exact ⟨⟨k + 1, HK.out, by go_num, HO.sub (.cons _ (List.Sublist.refl _))⟩, by have := HK.out; simp [intOf]; omega⟩
  ·obtain rfl : k = l.length := by omega
   have i4 : ¬ (((l.length : Nat) : Int) < l.length) := by omega
   (try simp only [zTz, zTs, zTa, zDs, zDz] at HO); (try have kk := HO.kk); skip
   go_wp2_with (first | ((first | (with_reducible refine sp_sk HO ?_) | (with_reducible refine sp_skc HO ?_) | (refine sp_wk HO rfl 34 _ _ rfl rfl rfl (by kernel_rfl) (by rfl) (by simp [Value.oneCell']) ?_)); intro W' HO'; clear HO; (try clear kk); have HO := HO'; clear HO'; (try simp only [zTz, zTs, zTa] at HO); (try have kk := HO.kk); skip))
   refine bodyPost_ret_by (res_row rfl _ _ _ 34 #[.int .i64 0, .int .i64 0] _ _ rfl (HO.blk 0 rfl) Tryz.underlying34 rfl infoSpt) rfl ?_
   exact ⟨rfl, HO.below⟩
theorem el_face : El 141 214 5 72 := El.of Tryz.underlying141 (z := .agg #[.string ⟨#[]⟩, .int .u32 0, .int .u32 0, .slice none 0 0, .slice none 0 0]) (by kernel_rfl) rfl (by omega)
theorem fa_alloc {P : Program} {ops : Array Oper} {Q : Exit → Act → World → Prop} {S : World → Prop} {md : Region.Mode} {fuel : Nat} {listed : Array Bool} {a : Act} {X : Nat → Prop} {w W : World} {L : List As} {o : Obj} (h : Own X w L W) (k : ∀ W', Own X w (blk W.heap.size o :: L) W' → wpS P md ops Q S fuel listed a W') : wpS P md ops Q S fuel listed a (W.alloc o) := k _ (h.alloc o)
theorem own_tl3 {w W : World} {a b c : As} {L : List As} (h : Own noX w (a :: b :: c :: L) W) : Own noX w L W := h.drop 3
theorem faceall_own (gen bound : Nat) (b o cap : Nat) (l : List In) (sv : Nat → Option Addr × Nat) (q : Nat) (ab ao ac fn : Nat) (nm : ByteArray) (w : World) (hM : Ms w b o l sv) (hn : l.length ≤ 2000) (hq : q < l.length) (hsv : sv q = (some ⟨ab, ao, none⟩, ac)) (h7 : l[q].args.length = 7)
  (h15 : ∀ k (hk : k < l.length), l[k].op = 15 ↔ k = q)
  (cS : ∀ W, Below w.heap.size w W → Calls Tryz.prog 90 #[.agg #[.int .u32 gen, .int .u32 bound, .slice (some ⟨b, o, none⟩) l.length cap]] W fun e w' => ∃ K LF, e = .returned (.tuple #[.pointer (some ⟨K, 0, none⟩), .agg #[.int .i64 0, .int .i64 0]]) ∧ Own noX W LF w' ∧
   (∀ W2, Own noX w LF W2 → Calls Tryz.prog 91 #[.pointer (some ⟨K, 0, none⟩)] W2 fun e w' => e = .returned (.agg #[.int .i64 0, .int .i64 0]) ∧ Below W2.heap.size W2 w') ∧
   (∀ (cl ge ec : Nat) W2, cl = 1 ∨ cl = 3 → Own noX w LF W2 → (∀ q, q < 4 → W2.cell? ⟨ge, 0 + q, none⟩ = some (.int .u32 (10 + q : Nat))) → Calls Tryz.prog 93 #[.pointer (some ⟨K, 0, none⟩), .agg #[.int .u32 0, .int .u32 fn, .string nm, .slice (some ⟨ge, 0, none⟩) 4 ec], .int .u32 cl] W2 fun e w' => (∃ g c, e = .returned (.slice (some ⟨g, 0, none⟩) 2 c)) ∧ Below W2.heap.size W2 w'))
  (cE : ∀ W, Below w.heap.size w W → Calls Tryz.prog 92 #[.agg #[.int .u16 15, .int .u32 l[q].ty, .int .u32 l[q].res, .slice (some ⟨ab, ao, none⟩) 7 ac]] W fun e w' => ∃ v', e = .returned (.agg #[.int .u32 0, .int .u32 fn, .string nm, v']) ∧ Own noX W [rw_ W.heap.size 27 1 v' 4 [.int .u32 (10 : Nat), .int .u32 (11 : Nat), .int .u32 (12 : Nat), .int .u32 (13 : Nat)]] w') :
  Calls Tryz.prog 53 #[.agg #[.int .u32 gen, .int .u32 bound, .slice (some ⟨b, o, none⟩) l.length cap]] w fun e w' => (∃ v, e = .returned (.tuple #[v, .agg #[.int .i64 0, .int .i64 0]])) ∧ Below w.heap.size w w' := by
 have HO := Own.nil w
 have HM := hid hM
 have H15 := hid h15
 have zb := hM.lt
 clear hM h15
 go_enter Tryz.func53, Tryz.ntmps53
 go_wp2_with (first | ((first | (with_reducible refine sp_al HO ?_; intro g hg; rw [← hg.out]; clear hg) | (with_reducible refine sp_alc HO ?_; intro g hg; rw [← hg.out]; clear hg) | (with_reducible refine sp_sk HO ?_) | (with_reducible refine sp_skc HO ?_) | (refine sp_wk HO rfl 34 _ _ rfl rfl rfl (by kernel_rfl) (by rfl) (by simp [Value.oneCell']) ?_)); intro W' HO'; clear HO; (try clear kk); have HO := HO'; clear HO'; (try simp only [zTz, zTs, zTa] at HO); (try have kk := HO.kk); skip) | (refine sp_lk HO rfl 30 _ rfl rfl _ Tryz.underlying30 rfl (by kernel_rfl) ?_) | (refine sp_lk HO rfl 34 _ rfl rfl _ Tryz.underlying34 rfl (by kernel_rfl) ?_) | (go_at_call 90; (with_reducible refine (cS _ HO.below).mono ?_); rintro e w1 ⟨K, LF, rfl, hn1, cK, cP⟩; replace HO := (HO.app hn1).perm List.perm_append_comm; clear hn1; (try simp only [List.cons_append, List.nil_append] at HO); (try clear kk); skip; (try simp only [zTz, zTs, zTa, zDs, zDz] at HO); (try have kk := HO.kk); skip) | (go_at_call 91; (with_reducible refine (cK _ (own_tl3 HO)).mono ?_); rintro e w1 ⟨rfl, hn1⟩; replace HO := HO.then hn1; clear hn1; (try clear kk); skip; (try simp only [zTz, zTs, zTa, zDs, zDz] at HO); (try have kk := HO.kk); skip))
 (try clear kk); skip
 obtain ⟨gSp, rfl⟩ : ∃ q, q = g := ⟨_, rfl⟩
 obtain ⟨L0, hL0, H0⟩ := name_list HO
 clear HO cS cK
 replace H0 := hid H0
 have HE := hid cE
 clear cE
 go_loopw [6, 27] (fun x6 x27 wv => ∃ k : Nat, k ≤ l.length ∧ x27 = .int .i64 k ∧ (k ≤ q → x6 = .slice none 0 0) ∧ Own noX w L0 wv) (fun _ x _ => l.length - (intOf x).toNat)
 case atStart => exact ⟨0, by omega, rfl, fun _ => rfl, H0.out⟩
 case round =>
  obtain ⟨k, hk, rfl, hx6, HO⟩ := hrel
  clear H0
  by_cases hkl : k < l.length
  ·have hMM := HM.out.below HO.below
   have e0 := hMM.op k hkl
   have e1 := hMM.ty k hkl
   have e2 := hMM.res k hkl
   have e3 := hMM.args k hkl
   have zb2 := hMM.lt
   have n15 := H15.out k hkl
   clear hMM
   have i4 : (k : Int) < l.length := by omega
   have HK := hid hkl
   rw [hL0.out] at HO
   by_cases hkq : k = q
   ·subst hkq
    obtain rfl := hx6 (Nat.le_refl _)
    clear hx6
    have hop := n15.2 rfl
    rw [hop] at e0
    replace e0 : wr.cell? ⟨b, o + k * 4, none⟩ = some (.int .u16 15) := e0
    rw [hsv, h7] at e3
    replace e3 : wr.cell? ⟨b, o + k * 4 + 3, none⟩ = some (.slice (some ⟨ab, ao, none⟩) 7 ac) := e3
    have cE := HE.out
    generalize (l[k]).ty = tya at e1 cE
    generalize (l[k]).res = rsa at e2 cE
    clear n15 hop
    (try simp only [zTz, zTs, zTa, zDs, zDz] at HO); (try have kk := HO.kk); skip
    go_wp2_with (first | ((first | (with_reducible refine sp_al HO ?_; intro g hg; rw [← hg.out]; clear hg) | (with_reducible refine sp_alc HO ?_; intro g hg; rw [← hg.out]; clear hg) | (with_reducible refine sp_sk HO ?_) | (with_reducible refine sp_skc HO ?_) | (refine sp_wk HO rfl 41 _ _ rfl rfl rfl (by kernel_rfl) (by rfl) (by simp [Value.oneCell']) ?_) | (refine sp_wk HO rfl 209 _ _ rfl rfl rfl (by kernel_rfl) (by rfl) (by simp [Value.oneCell']) ?_)); intro W' HO'; clear HO; (try clear kk); have HO := HO'; clear HO'; (try simp only [zTz, zTs, zTa] at HO); (try have kk := HO.kk); skip) | (go_at_call 92; (with_reducible refine (cE _ HO.below).mono ?_); rintro e w1 ⟨va, rfl, h2⟩; obtain ⟨aa, ec, rfl, hx⟩ := h2.slice 0 rfl; clear hx; obtain ⟨ge, rfl, hx1, hx2, hec, hx3⟩ := h2.slice2 0 rfl (by omega); clear hx1 hx2 hx3; replace HO := HO.app h2; clear h2; (try simp only [List.cons_append, List.nil_append] at HO); (try clear kk); skip; (try simp only [zTz, zTs, zTa, zDs, zDz] at HO); (try have kk := HO.kk); skip))
    (try clear kk); skip
    obtain ⟨gE, rfl⟩ : ∃ q, q = g := ⟨_, rfl⟩
    clear cE hsv h7 HE hq
    obtain ⟨L1, hL1, HO⟩ := name_list HO
    have hrow : ∀ W, Own noX w L1 W → ∀ q, q < 4 → W.cell? ⟨ge, 0 + q, none⟩ = some (.int .u32 (10 + q : Nat)) := fun W h q hq => by
     rw [hL1.out] at h
     rw [Nat.zero_add]
     refine h.rowcell 1 q rfl ?_
     rcases (show q = 0 ∨ q = 1 ∨ q = 2 ∨ q = 3 by omega) with rfl | rfl | rfl | rfl <;> rfl
    have hLF : ∀ W, Own noX w L1 W → Own noX w LF W := fun W h => by rw [hL1.out] at h; exact h.drop 6
    have hE : ∀ W, Own noX w L1 W → ∀ j, W.cell? ⟨gE, j, none⟩ = (#[.int .u32 0, .int .u32 fn, .string nm, .slice (some ⟨ge, 0, none⟩) 4 ec] : Array Value)[j]? := fun W h => by rw [hL1.out] at h; exact h.cells 0 rfl
    have hcl : ∀ W W2 : World, Own noX w L1 W → Below W.heap.size W W2 → Own noX w L1 W2 := fun _ _ h k => h.then k
    have hSw := HO.drew
    refine wp_region_s (S := fun W => Own noX w L1 W) (by kernel_rfl) ?_
    refine sTk hcl 0 (v := ?_) (hm := ⟨by rfl, .inl ?_⟩) (hSw := hSw) (h := ?_)
    rotate_left
    ·(intro w hw; go_simp; first | done | with_reducible rfl)
    try simp only [Act.put, zTa, zTz, zTs]
    refine sTk hcl 1 (v := ?_) (hm := ⟨by rfl, .inl ?_⟩) (hSw := hSw) (h := ?_)
    rotate_left
    ·(intro w hw; go_simp; first | done | with_reducible rfl)
    try simp only [Act.put, zTa, zTz, zTs]
    refine sTk hcl 3 (v := ?_) (hm := ⟨by rfl, .inl ?_⟩) (hSw := hSw) (h := ?_)
    rotate_left
    ·(intro w hw; go_simp; first | done | with_reducible rfl)
    try simp only [Act.put, zTa, zTz, zTs]
    refine sTk hcl 5 (v := ?_) (hm := ⟨by rfl, .inl ?_⟩) (hSw := hSw) (h := ?_)
    rotate_left
    ·(intro w hw; go_simp; first | done | with_reducible rfl)
    try simp only [Act.put, zTa, zTz, zTs]
    refine sTk hcl 7 (v := ?_) (hm := ⟨by rfl, .inl ?_⟩) (hSw := hSw) (h := ?_)
    rotate_left
    ·(intro w hw; go_simp; first | done | with_reducible rfl)
    try simp only [Act.put, zTa, zTz, zTs]
    refine sTk hcl 10 (v := ?_) (hm := ⟨by rfl, .inl ?_⟩) (hSw := hSw) (h := ?_)
    rotate_left
    ·(intro w hw; go_simp; first | done | with_reducible rfl)
    try simp only [Act.put, zTa, zTz, zTs]
    refine sTk hcl 2 (v := ?_) (hm := ⟨by rfl, .inl ?_⟩) (hSw := hSw) (h := ?_)
    rotate_left
    ·(intro w hw; have q1 := hE _ hw; go_simp; first | done | with_reducible rfl)
    try simp only [Act.put, zTa, zTz, zTs]
    refine sTk hcl 4 (v := ?_) (hm := ⟨by rfl, .inl ?_⟩) (hSw := hSw) (h := ?_)
    rotate_left
    ·(intro w hw; have q1 := hE _ hw; go_simp; first | done | with_reducible rfl)
    try simp only [Act.put, zTa, zTz, zTs]
    refine sTk hcl 6 (v := ?_) (hm := ⟨by rfl, .inl ?_⟩) (hSw := hSw) (h := ?_)
    rotate_left
    ·(intro w hw; have q1 := hE _ hw; go_simp; first | done | with_reducible rfl)
    try simp only [Act.put, zTa, zTz, zTs]
    refine sTk hcl 8 (v := ?_) (hm := ⟨by rfl, .inl ?_⟩) (hSw := hSw) (h := ?_)
    rotate_left
    ·(intro w hw; have q1 := hE _ hw; go_simp; first | done | with_reducible rfl)
    try simp only [Act.put, zTa, zTz, zTs]
    refine sTk hcl 11 (v := ?_) (hm := ⟨by rfl, .inl ?_⟩) (hSw := hSw) (h := ?_)
    rotate_left
    ·(intro w hw; have q1 := hE _ hw; go_simp; first | done | with_reducible rfl)
    try simp only [Act.put, zTa, zTz, zTs]
    refine wpS_ready (rs := [9]) (by kernel_rfl) (by simp) (fun W2 hW2 => ?_)
    replace HO := HO.drew.then hW2
    clear hW2 hSw
    refine sR1 (fun K hK => ?_)
    go_simp
    go_at_call 93
    refine (cP 1 ge ec _ (by simp) (hLF _ HO) (hrow _ HO)).mono ?_
    rintro e W6 ⟨⟨a6, b6, rfl⟩, hn6⟩
    replace HO := HO.then hn6
    clear hn6
    refine hK.out _ _ HO ?_
    clear hK K
    try simp only [Act.put, zTa, zTz, zTs]
    refine wpS_ready (rs := [12]) (by kernel_rfl) (by simp) (fun W7 hW7 => ?_)
    replace HO := HO.then hW7
    clear hW7
    refine sR1 (fun K hK => ?_)
    go_simp
    go_at_call 93
    refine (cP 3 ge ec _ (by simp) (hLF _ HO) (hrow _ HO)).mono ?_
    rintro e W8 ⟨⟨a8, b8, rfl⟩, hn8⟩
    replace HO := HO.then hn8
    clear hn8
    refine hK.out _ _ HO ?_
    clear hK K
    try simp only [Act.put, zTa, zTz, zTs]
    have hSw := HO
    refine sTk hcl 13 (v := ?_) (hm := ⟨by rfl, .inl ?_⟩) (hSw := hSw) (h := ?_)
    rotate_left
    ·(intro w hw; go_simp; first | done | with_reducible rfl)
    try simp only [Act.put, zTa, zTz, zTs]
    refine wpS_ready (rs := [14]) (by kernel_rfl) (by simp) (fun W5 hW5 => ?_)
    replace HO := HO.then hW5
    clear hW5 hSw
    refine sR1 (fun K hK => ?_)
    go_simp
    refine hK.out _ _ (HO.then ((Below.refl _ _).alloc (Nat.le_refl _) _)) ?_
    clear hK K
    try simp only [Act.put, zTa, zTz, zTs]
    refine fa_alloc HO ?_
    generalize W5.heap.size = H
    intro W6 HP
    replace HP := HP.row w.heap.size 214 5
    refine wpS_ready (rs := [15]) (by kernel_rfl) (by simp) (fun W7 hW7 => ?_)
    replace HP := HP.then hW7
    clear hW7
    refine sR1 (fun K hK => ?_)
    refine sp_append_step HP el_face 0 1 rfl rfl rfl _ _ rfl rfl rfl rfl (by simp [Value.oneCell']) (by omega) (by omega) (Nat.le_refl _) ?_
    intro gO cO W8 HQ
    have H9 : Own noX w L1 W8 := HQ.drop 2
    clear HP HQ
    refine hK.out _ _ H9 ?_
    clear hK K
    try simp only [Act.put, zTa, zTz, zTs]
    have hSw := H9
    refine sTk hcl 16 (v := ?_) (hm := ⟨by rfl, .inl ?_⟩) (hSw := hSw) (h := ?_)
    rotate_left
    ·(intro w hw; go_simp; first | done | with_reducible rfl)
    try simp only [Act.put, zTa, zTz, zTs]
    refine wpS_done (by kernel_rfl) (fun W9 hW9 => ?_) _
    replace H9 := H9.then hW9
    clear hW9 hSw
    go_wp2_with fail
    exact ⟨⟨k + 1, HK.out, by go_num, fun h => absurd h (by omega), by rw [hL0.out]; rw [hL1.out] at H9; exact H9.drop 3⟩, by have := HK.out; simp [intOf]; omega⟩
   ·have hop : ¬ l[k].op = 15 := fun e => hkq (n15.1 e)
    have i5 : ((l[k].op : Int) == 15) = false := by rw [beq_eq_false_iff_ne]; omega
    have hx7 := hid hx6
    generalize l[k] = i at e0 e1 e2 e3 i5
    generalize sv k = s at e3
    obtain ⟨sa, sc⟩ := s
    simp only at e3
    clear n15 hop hx6 hsv h7 HE hq
    (try simp only [zTz, zTs, zTa, zDs, zDz] at HO); (try have kk := HO.kk); skip
    go_wp2_with (first | ((first | (with_reducible refine sp_al HO ?_; intro g hg; rw [← hg.out]; clear hg) | (with_reducible refine sp_alc HO ?_; intro g hg; rw [← hg.out]; clear hg) | (with_reducible refine sp_sk HO ?_) | (with_reducible refine sp_skc HO ?_) | (refine sp_wk HO rfl 41 _ _ rfl rfl rfl (by kernel_rfl) (by rfl) (by simp [Value.oneCell']) ?_)); intro W' HO'; clear HO; (try clear kk); have HO := HO'; clear HO'; (try simp only [zTz, zTs, zTa] at HO); (try have kk := HO.kk); skip))
    exact ⟨⟨k + 1, HK.out, by go_num, fun h => hx7.out (by omega), by rw [hL0.out]; exact HO.drop 1⟩, by have := HK.out; simp [intOf]; omega⟩
  ·obtain rfl : k = l.length := by omega
   have i4 : ¬ (((l.length : Nat) : Int) < l.length) := by omega
   rw [hL0.out] at HO
   clear hx6 hsv h7 HE hq
   (try simp only [zTz, zTs, zTa, zDs, zDz] at HO); (try have kk := HO.kk); skip
   go_wp2_with (first | ((first | (with_reducible refine sp_sk HO ?_) | (with_reducible refine sp_skc HO ?_) | (refine sp_wk HO rfl 34 _ _ rfl rfl rfl (by kernel_rfl) (by rfl) (by simp [Value.oneCell']) ?_)); intro W' HO'; clear HO; (try clear kk); have HO := HO'; clear HO'; (try simp only [zTz, zTs, zTa] at HO); (try have kk := HO.kk); skip))
   obtain ⟨gR, rfl⟩ : ∃ q, q = g := ⟨_, rfl⟩
   have n5 : gSp ≠ gR := HO.ne 0 1 rfl rfl (by omega)
   have z5 := HO.lt 0 rfl
   have z3 := HO.lt 1 rfl
   go_region
   go_wp2_with fail
   have H := ((HO.set 1 0 (.int .i64 0) rfl).set 1 1 (.int .i64 0) rfl).drew
   refine bodyPost_ret_by (res_tmp_row rfl _ _ _ 34 #[.int .i64 0, .int .i64 0] _ _ rfl (H.blk 1 rfl) Tryz.underlying34 rfl infoSpt) rfl ?_
   exact ⟨⟨_, rfl⟩, H.below⟩
end Go.Proofs.YtbhijdmlonplgaaGreatDoor
