/- Face: rules. -/
import Derived.Test.YtindnnbopaeklaaGreatDoorAf
import Derived.Test.YtindnnbopaeklaaGreatDoorAh
import Derived.Test.YtindnnbopaeklaaGreatDoorBj
namespace Go.Proofs.YtindnnbopaeklaaGreatDoor
set_option linter.unusedVariables false
set_option linter.unusedSimpArgs false
set_option maxRecDepth 100000
set_option maxHeartbeats 4000000
open Go.RowKit
def hrule (K : Nat) (f : Nat) : Value := .func (.func f) #[.pointer (some ⟨K, 0, none⟩)] #[]
theorem frules_15 (K : Nat) (w : World) : Calls Tryz.prog 304 #[.pointer (some ⟨K, 0, none⟩), .int .u16 15] w fun e w' => ∃ g, e = .returned (.slice (some ⟨g, 0, none⟩) 3 3) ∧ Own noX w [cls g #[hrule K 358, .int .i64 200, hrule K 359, .int .i64 201, hrule K 360, .int .i64 202] 405] w' := by
 have HO := Own.nil w
 go_enter Tryz.func304, Tryz.ntmps304
 go_wp2_with (first | ((first | ((with_reducible first | refine sp_al HO ?_ | refine sp_alc HO ?_); intro g hg; rw [← hg.out]; clear hg) | (with_reducible first | refine sp_sk HO ?_ | refine sp_skc HO ?_)); clear HO; (try clear kk); intro W' HO; (try simp only [zTz, zTs, zTa] at HO); (try have kk := HO.kk)))
 go_ret
 exact ⟨_, rfl, HO.alloc _⟩
theorem frules_71 (K : Nat) (w : World) : Calls Tryz.prog 304 #[.pointer (some ⟨K, 0, none⟩), .int .u16 71] w fun e w' => ∃ g, e = .returned (.slice (some ⟨g, 0, none⟩) 1 1) ∧ Own noX w [cls g #[hrule K 362, .int .i64 202] 405] w' := by
 have HO := Own.nil w
 go_enter Tryz.func304, Tryz.ntmps304
 go_wp2_with (first | ((first | ((with_reducible first | refine sp_al HO ?_ | refine sp_alc HO ?_); intro g hg; rw [← hg.out]; clear hg) | (with_reducible first | refine sp_sk HO ?_ | refine sp_skc HO ?_)); clear HO; (try clear kk); intro W' HO; (try simp only [zTz, zTs, zTa] at HO); (try have kk := HO.kk)))
 go_ret
 exact ⟨_, rfl, HO.alloc _⟩
theorem frules_none (K op : Nat) (w : World) (h1 : op ≠ 15) (h2 : op ≠ 16) (h3 : op ≠ 71) (h4 : op ≠ 252) : Calls Tryz.prog 304 #[.pointer (some ⟨K, 0, none⟩), .int .u16 op] w fun e w' => e = .returned (.slice none 0 0) ∧ w' = w := by
 have i1 : ((op : Int) == 15) = false := by rw [beq_eq_false_iff_ne]; omega
 have i2 : ((op : Int) == 16) = false := by rw [beq_eq_false_iff_ne]; omega
 have i3 : ((op : Int) == 71) = false := by rw [beq_eq_false_iff_ne]; omega
 have i4 : ((op : Int) == 252) = false := by rw [beq_eq_false_iff_ne]; omega
 clear h1 h2 h3 h4
 go_enter Tryz.func304, Tryz.ntmps304
 go_wp2_with fail
 go_ret
 exact ⟨rfl, rfl⟩
theorem fcheck_own (K b o cap : Nat) (l : List In) (sv : Nat → Option Addr × Nat) (w : World) (g4 : w.cell? ⟨K, 4, none⟩ = some (.slice (some ⟨b, o, none⟩) l.length cap)) (hM : Ms w b o l sv) (hn : l.length ≤ 2000)
  (c1 : ∀ k (hk : k < l.length), l[k].op = 15 → ∀ W, Below w.heap.size w W → Calls Tryz.prog 358 #[.pointer (some ⟨K, 0, none⟩), .int .i64 k] W fun e w' => e = .returned (.bool true) ∧ Below W.heap.size W w')
  (c2 : ∀ k (hk : k < l.length), l[k].op = 15 → ∀ W, Below w.heap.size w W → Calls Tryz.prog 359 #[.pointer (some ⟨K, 0, none⟩), .int .i64 k] W fun e w' => e = .returned (.bool true) ∧ Below W.heap.size W w')
  (c3 : ∀ k (hk : k < l.length), l[k].op = 15 → ∀ W, Below w.heap.size w W → Calls Tryz.prog 360 #[.pointer (some ⟨K, 0, none⟩), .int .i64 k] W fun e w' => e = .returned (.bool true) ∧ Below W.heap.size W w')
  (c4 : ∀ k (hk : k < l.length), l[k].op = 71 → ∀ W, Below w.heap.size w W → Calls Tryz.prog 362 #[.pointer (some ⟨K, 0, none⟩), .int .i64 k] W fun e w' => e = .returned (.bool true) ∧ Below W.heap.size W w')
  (n16 : ∀ k (hk : k < l.length), l[k].op ≠ 16) (n252 : ∀ k (hk : k < l.length), l[k].op ≠ 252) :
  Calls Tryz.prog 264 #[.pointer (some ⟨K, 0, none⟩)] w fun e w' => e = .returned (.agg #[.int .i64 0, .int .i64 0]) ∧ Below w.heap.size w w' := by
 have HO := Own.nil w
 have HM := hid hM
 have zK := block_lt_of_cell g4
 have H1 := hid c1
 have H2 := hid c2
 have H3 := hid c3
 have H4 := hid c4
 have N1 := hid n16
 have N2 := hid n252
 clear hM c1 c2 c3 c4 n16 n252
 go_enter Tryz.func264, Tryz.ntmps264
 go_wp2_with (first | ((first | ((with_reducible first | refine sp_al HO ?_ | refine sp_alc HO ?_); intro g hg; rw [← hg.out]; clear hg) | (with_reducible first | refine sp_sk HO ?_ | refine sp_skc HO ?_) | (refine sp_wk HO rfl 36 _ _ rfl rfl rfl (by kernel_rfl) (by rfl) (by simp [Value.oneCell']) ?_)); clear HO; (try clear kk); intro W' HO; (try simp only [zTz, zTs, zTa] at HO); (try have kk := HO.kk)))
 (try clear kk)
 obtain ⟨gR, rfl⟩ : ∃ q, q = g := ⟨_, rfl⟩
 have H0 := hid HO
 clear HO
 go_loopw [3, 12] (fun _ x12 wv => ∃ k : Nat, k ≤ l.length ∧ x12 = .int .i64 k ∧ Own noX w [cls gR #[.int .i64 0, .int .i64 0] 36] wv) (fun _ x _ => l.length - (intOf x).toNat)
 case atStart => exact ⟨0, by omega, rfl, H0.out⟩
 case round =>
  obtain ⟨k, hk, rfl, HO⟩ := hrel
  clear H0
  by_cases hkl : k < l.length
  ·have hMM := HM.out.below HO.below
   have e0 := hMM.op k hkl
   have e1 := hMM.ty k hkl
   have e2 := hMM.res k hkl
   have e3 := hMM.args k hkl
   have zb := hMM.lt
   have n16 := N1.out k hkl
   have n252 := N2.out k hkl
   have c1 := H1.out k hkl
   have c2 := H2.out k hkl
   have c3 := H3.out k hkl
   have c4 := H4.out k hkl
   clear hMM
   have i4 : (k : Int) < l.length := by omega
   have HK := hid hkl
   generalize l[k] = i at e0 e1 e2 e3 n16 n252 c1 c2 c3 c4
   generalize sv k = s at e3
   obtain ⟨sa, sc⟩ := s
   simp only at e3
   clear hkl hk
   by_cases h15 : i.op = 15
   ·replace c1 := c1 h15
    replace c2 := c2 h15
    replace c3 := c3 h15
    rw [h15] at e0
    replace e0 : wr.cell? ⟨b, o + k * 4, none⟩ = some (.int .u16 15) := e0
    clear c4 n16 n252
    (try simp only [zTz, zTs, zTa, zDs, zDz] at HO); (try have kk := HO.kk)
    go_wp2_with (first | ((first | ((with_reducible first | refine sp_al HO ?_ | refine sp_alc HO ?_); intro g hg; rw [← hg.out]; clear hg) | (with_reducible first | refine sp_sk HO ?_ | refine sp_skc HO ?_) | (refine sp_wk HO rfl 43 _ _ rfl rfl rfl (by kernel_rfl) (by rfl) (by simp [Value.oneCell']) ?_)); clear HO; (try clear kk); intro W' HO; (try simp only [zTz, zTs, zTa] at HO); (try have kk := HO.kk)) | (go_at_call 304; (with_reducible refine (frules_15 K _).mono ?_); rintro e w1 ⟨gr, rfl, h2⟩; unfold hrule at h2; replace HO := HO.app h2; clear h2; (try simp only [List.cons_append, List.nil_append] at HO); (try clear kk); (try simp only [zTz, zTs, zTa, zDs, zDz] at HO); (try have kk := HO.kk)))
    refine wp_loop_rounds 4 ?_
    rw [rounds_succ]
    go_wp2_with (first | ((first | ((with_reducible first | refine sp_al HO ?_ | refine sp_alc HO ?_); intro g hg; rw [← hg.out]; clear hg) | (with_reducible first | refine sp_sk HO ?_ | refine sp_skc HO ?_) | (refine sp_wk HO rfl 405 _ _ rfl rfl rfl (by kernel_rfl) (by rfl) (by simp [Value.oneCell']) ?_)); clear HO; (try clear kk); intro W' HO; (try simp only [zTz, zTs, zTa] at HO); (try have kk := HO.kk)) | (go_at_call 358; (with_reducible refine (c1 _ HO.below).mono ?_); rintro e w1 ⟨rfl, hn⟩; replace HO := HO.then hn; clear hn; (try clear kk); (try simp only [zTz, zTs, zTa, zDs, zDz] at HO); (try have kk := HO.kk)))
    rw [rounds_succ]
    go_wp2_with (first | ((first | ((with_reducible first | refine sp_al HO ?_ | refine sp_alc HO ?_); intro g hg; rw [← hg.out]; clear hg) | (with_reducible first | refine sp_sk HO ?_ | refine sp_skc HO ?_) | (refine sp_wk HO rfl 405 _ _ rfl rfl rfl (by kernel_rfl) (by rfl) (by simp [Value.oneCell']) ?_)); clear HO; (try clear kk); intro W' HO; (try simp only [zTz, zTs, zTa] at HO); (try have kk := HO.kk)) | (go_at_call 359; (with_reducible refine (c2 _ HO.below).mono ?_); rintro e w1 ⟨rfl, hn⟩; replace HO := HO.then hn; clear hn; (try clear kk); (try simp only [zTz, zTs, zTa, zDs, zDz] at HO); (try have kk := HO.kk)))
    rw [rounds_succ]
    go_wp2_with (first | ((first | ((with_reducible first | refine sp_al HO ?_ | refine sp_alc HO ?_); intro g hg; rw [← hg.out]; clear hg) | (with_reducible first | refine sp_sk HO ?_ | refine sp_skc HO ?_) | (refine sp_wk HO rfl 405 _ _ rfl rfl rfl (by kernel_rfl) (by rfl) (by simp [Value.oneCell']) ?_)); clear HO; (try clear kk); intro W' HO; (try simp only [zTz, zTs, zTa] at HO); (try have kk := HO.kk)) | (go_at_call 360; (with_reducible refine (c3 _ HO.below).mono ?_); rintro e w1 ⟨rfl, hn⟩; replace HO := HO.then hn; clear hn; (try clear kk); (try simp only [zTz, zTs, zTa, zDs, zDz] at HO); (try have kk := HO.kk)))
    rw [rounds_succ]
    go_wp2_with fail
    exact ⟨⟨k + 1, HK.out, by go_num, HO.sub (.cons _ (.cons _ (.cons _ (.cons _ (.cons _ (List.Sublist.refl _))))))⟩, by have := HK.out; simp [intOf]; omega⟩
   ·have j15 : ((i.op : Int) == 15) = false := by rw [beq_eq_false_iff_ne]; omega
    clear c1 c2 c3
    by_cases h71 : i.op = 71
    ·replace c4 := c4 h71
     rw [h71] at e0
     replace e0 : wr.cell? ⟨b, o + k * 4, none⟩ = some (.int .u16 71) := e0
     clear n16 n252 j15
     (try simp only [zTz, zTs, zTa, zDs, zDz] at HO); (try have kk := HO.kk)
     go_wp2_with (first | ((first | ((with_reducible first | refine sp_al HO ?_ | refine sp_alc HO ?_); intro g hg; rw [← hg.out]; clear hg) | (with_reducible first | refine sp_sk HO ?_ | refine sp_skc HO ?_) | (refine sp_wk HO rfl 43 _ _ rfl rfl rfl (by kernel_rfl) (by rfl) (by simp [Value.oneCell']) ?_)); clear HO; (try clear kk); intro W' HO; (try simp only [zTz, zTs, zTa] at HO); (try have kk := HO.kk)) | (go_at_call 304; (with_reducible refine (frules_71 K _).mono ?_); rintro e w1 ⟨gr, rfl, h2⟩; unfold hrule at h2; replace HO := HO.app h2; clear h2; (try simp only [List.cons_append, List.nil_append] at HO); (try clear kk); (try simp only [zTz, zTs, zTa, zDs, zDz] at HO); (try have kk := HO.kk)))
     refine wp_loop_rounds 2 ?_
     rw [rounds_succ]
     go_wp2_with (first | ((first | ((with_reducible first | refine sp_al HO ?_ | refine sp_alc HO ?_); intro g hg; rw [← hg.out]; clear hg) | (with_reducible first | refine sp_sk HO ?_ | refine sp_skc HO ?_) | (refine sp_wk HO rfl 405 _ _ rfl rfl rfl (by kernel_rfl) (by rfl) (by simp [Value.oneCell']) ?_)); clear HO; (try clear kk); intro W' HO; (try simp only [zTz, zTs, zTa] at HO); (try have kk := HO.kk)) | (go_at_call 362; (with_reducible refine (c4 _ HO.below).mono ?_); rintro e w1 ⟨rfl, hn⟩; replace HO := HO.then hn; clear hn; (try clear kk); (try simp only [zTz, zTs, zTa, zDs, zDz] at HO); (try have kk := HO.kk)))
     rw [rounds_succ]
     go_wp2_with fail
     exact ⟨⟨k + 1, HK.out, by go_num, HO.sub (.cons _ (.cons _ (.cons _ (List.Sublist.refl _))))⟩, by have := HK.out; simp [intOf]; omega⟩
    ·clear c4
     have cR := frules_none K i.op
     (try simp only [zTz, zTs, zTa, zDs, zDz] at HO); (try have kk := HO.kk)
     go_wp2_with (first | ((first | ((with_reducible first | refine sp_al HO ?_ | refine sp_alc HO ?_); intro g hg; rw [← hg.out]; clear hg) | (with_reducible first | refine sp_sk HO ?_ | refine sp_skc HO ?_) | (refine sp_wk HO rfl 43 _ _ rfl rfl rfl (by kernel_rfl) (by rfl) (by simp [Value.oneCell']) ?_)); clear HO; (try clear kk); intro W' HO; (try simp only [zTz, zTs, zTa] at HO); (try have kk := HO.kk)) | (go_at_call 304; (with_reducible refine (cR _ h15 n16 h71 n252).mono ?_); rintro e w1 ⟨rfl, rfl⟩))
     refine wp_loop_rounds 1 ?_
     rw [rounds_succ]
     go_wp2_with fail
     exact ⟨⟨k + 1, HK.out, by go_num, HO.sub (.cons _ (List.Sublist.refl _))⟩, by have := HK.out; simp [intOf]; omega⟩
  ·obtain rfl : k = l.length := by omega
   have i4 : ¬ (((l.length : Nat) : Int) < l.length) := by omega
   (try simp only [zTz, zTs, zTa, zDs, zDz] at HO); (try have kk := HO.kk)
   go_wp2_with (first | ((first | (with_reducible first | refine sp_sk HO ?_ | refine sp_skc HO ?_) | (refine sp_wk HO rfl 36 _ _ rfl rfl rfl (by kernel_rfl) (by rfl) (by simp [Value.oneCell']) ?_)); clear HO; (try clear kk); intro W' HO; (try simp only [zTz, zTs, zTa] at HO); (try have kk := HO.kk)))
   refine bodyPost_ret_by (res_row rfl _ _ _ 36 #[.int .i64 0, .int .i64 0] _ _ rfl (HO.blk 0 rfl) Tryz.underlying36 rfl infoSpt) rfl ?_
   exact ⟨rfl, HO.below⟩
theorem own_t3 {w W : World} {a b c : As} {L : List As} (h : Own noX w (a :: b :: c :: L) W) : Own noX w L W := h.drop 3
theorem faceall_none (gen bound : Nat) (b o cap : Nat) (l : List In) (sv : Nat → Option Addr × Nat) (w : World) (hM : Ms w b o l sv) (hn : l.length ≤ 2000)
  (h15 : ∀ k (hk : k < l.length), l[k].op ≠ 15)
  (cS : ∀ W, Below w.heap.size w W → Calls Tryz.prog 263 #[.agg #[.int .u32 gen, .int .u32 bound, .slice (some ⟨b, o, none⟩) l.length cap]] W fun e w' => ∃ K LF, e = .returned (.tuple #[.pointer (some ⟨K, 0, none⟩), .agg #[.int .i64 0, .int .i64 0]]) ∧ Own noX W LF w' ∧
   (∀ W2, Own noX w LF W2 → Calls Tryz.prog 264 #[.pointer (some ⟨K, 0, none⟩)] W2 fun e w' => e = .returned (.agg #[.int .i64 0, .int .i64 0]) ∧ Below W2.heap.size W2 w')) :
  Calls Tryz.prog 226 #[.agg #[.int .u32 gen, .int .u32 bound, .slice (some ⟨b, o, none⟩) l.length cap]] w fun e w' => (∃ v, e = .returned (.tuple #[v, .agg #[.int .i64 0, .int .i64 0]])) ∧ Below w.heap.size w w' := by
 have HO := Own.nil w
 have HM := hid hM
 have H15 := hid h15
 have zb := hM.lt
 clear hM h15
 go_enter Tryz.func226, Tryz.ntmps226
 go_wp2_with (first | ((first | ((with_reducible first | refine sp_al HO ?_ | refine sp_alc HO ?_); intro g hg; rw [← hg.out]; clear hg) | (with_reducible first | refine sp_sk HO ?_ | refine sp_skc HO ?_) | (refine sp_wk HO rfl 36 _ _ rfl rfl rfl (by kernel_rfl) (by rfl) (by simp [Value.oneCell']) ?_)); clear HO; (try clear kk); intro W' HO; (try simp only [zTz, zTs, zTa] at HO); (try have kk := HO.kk)) | (refine sp_lk HO rfl 28 _ rfl rfl _ Tryz.underlying28 rfl (by kernel_rfl) ?_) | (refine sp_lk HO rfl 36 _ rfl rfl _ Tryz.underlying36 rfl (by kernel_rfl) ?_) | (go_at_call 263; (with_reducible refine (cS _ HO.below).mono ?_); rintro e w1 ⟨K, LF, rfl, hn1, cK⟩; replace HO := (HO.app hn1).perm List.perm_append_comm; clear hn1; (try simp only [List.cons_append, List.nil_append] at HO); (try clear kk); (try simp only [zTz, zTs, zTa, zDs, zDz] at HO); (try have kk := HO.kk)) | (go_at_call 264; (with_reducible refine (cK _ (own_t3 HO)).mono ?_); rintro e w1 ⟨rfl, hn1⟩; replace HO := HO.then hn1; clear hn1; (try clear kk); (try simp only [zTz, zTs, zTa, zDs, zDz] at HO); (try have kk := HO.kk)))
 (try clear kk)
 obtain ⟨gSp, rfl⟩ : ∃ q, q = g := ⟨_, rfl⟩
 obtain ⟨L0, hL0, H0⟩ := name_list HO
 clear HO cS cK
 replace H0 := hid H0
 go_loopw [6, 27] (fun x6 x27 wv => ∃ k : Nat, k ≤ l.length ∧ x27 = .int .i64 k ∧ x6 = .slice none 0 0 ∧ Own noX w L0 wv) (fun _ x _ => l.length - (intOf x).toNat)
 case atStart => exact ⟨0, by omega, rfl, rfl, H0.out⟩
 case round =>
  obtain ⟨k, hk, rfl, rfl, HO⟩ := hrel
  clear H0
  by_cases hkl : k < l.length
  ·have hMM := HM.out.below HO.below
   have e0 := hMM.op k hkl
   have e1 := hMM.ty k hkl
   have e2 := hMM.res k hkl
   have e3 := hMM.args k hkl
   have zb2 := hMM.lt
   have hop := H15.out k hkl
   clear hMM
   have i4 : (k : Int) < l.length := by omega
   have HK := hid hkl
   rw [hL0.out] at HO
   have i5 : ((l[k].op : Int) == 15) = false := by rw [beq_eq_false_iff_ne]; omega
   generalize l[k] = i at e0 e1 e2 e3 i5
   generalize sv k = s at e3
   obtain ⟨sa, sc⟩ := s
   simp only at e3
   clear hop
   (try simp only [zTz, zTs, zTa, zDs, zDz] at HO); (try have kk := HO.kk)
   go_wp2_with (first | ((first | ((with_reducible first | refine sp_al HO ?_ | refine sp_alc HO ?_); intro g hg; rw [← hg.out]; clear hg) | (with_reducible first | refine sp_sk HO ?_ | refine sp_skc HO ?_) | (refine sp_wk HO rfl 43 _ _ rfl rfl rfl (by kernel_rfl) (by rfl) (by simp [Value.oneCell']) ?_)); clear HO; (try clear kk); intro W' HO; (try simp only [zTz, zTs, zTa] at HO); (try have kk := HO.kk)))
   exact ⟨⟨k + 1, HK.out, by go_num, rfl, by rw [hL0.out]; exact HO.drop 1⟩, by have := HK.out; simp [intOf]; omega⟩
  ·obtain rfl : k = l.length := by omega
   have i4 : ¬ (((l.length : Nat) : Int) < l.length) := by omega
   rw [hL0.out] at HO
   (try simp only [zTz, zTs, zTa, zDs, zDz] at HO); (try have kk := HO.kk)
   go_wp2_with (first | ((first | (with_reducible first | refine sp_sk HO ?_ | refine sp_skc HO ?_) | (refine sp_wk HO rfl 36 _ _ rfl rfl rfl (by kernel_rfl) (by rfl) (by simp [Value.oneCell']) ?_)); clear HO; (try clear kk); intro W' HO; (try simp only [zTz, zTs, zTa] at HO); (try have kk := HO.kk)))
   obtain ⟨gR, rfl⟩ : ∃ q, q = g := ⟨_, rfl⟩
   have n5 : gSp ≠ gR := HO.ne 0 1 rfl rfl (by omega)
   have z5 := HO.lt 0 rfl
   have z3 := HO.lt 1 rfl
   go_region
   go_wp2_with fail
   have H := ((HO.set 1 0 (.int .i64 0) rfl).set 1 1 (.int .i64 0) rfl).drew
   refine bodyPost_ret_by (res_tmp_row rfl _ _ _ 36 #[.int .i64 0, .int .i64 0] _ _ rfl (H.blk 1 rfl) Tryz.underlying36 rfl infoSpt) rfl ?_
   exact ⟨⟨_, rfl⟩, H.below⟩
end Go.Proofs.YtindnnbopaeklaaGreatDoor
