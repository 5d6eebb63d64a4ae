/- Face: entered. -/
import Derived.Test.YtbhijdmlonplgaaGreatDoorBj
import Derived.Test.YtbhijdmlonplgaaGreatDoorAf
namespace Go.Proofs.YtbhijdmlonplgaaGreatDoor
set_option linter.unusedVariables false
set_option linter.unusedSimpArgs false
set_option maxRecDepth 100000
set_option maxHeartbeats 4000000
open Go.RowKit Go.MapKept
section
variable {K P T C gf gc gd b o cap b2 cb id lab y st en : Nat} {l : List In} {sv : Nat → Option Addr × Nat} {tab : Nat → Option TyD} {vs : Nat → Option (Nat × Nat × Nat)} {fk : Nat → Option Nat} {w : World}
theorem fentered_own (h : Fkr K P T C gf gc gd b o cap b2 cb id lab y st en l sv tab vs fk w) (at_ : Nat) (hat : at_ < l.length) (hn : l.length ≤ 2000) (ab ao ac : Nat) (hsv : sv at_ = (some ⟨ab, ao, none⟩, ac)) (h7 : l[at_].args.length = 7) (hop : l[at_].op = 15) (nm : ByteArray)
  (cE : ∀ W, Below w.heap.size w W → Calls Tryz.prog 92 #[.agg #[.int .u16 15, .int .u32 l[at_].ty, .int .u32 l[at_].res, .slice (some ⟨ab, ao, none⟩) 7 ac]] W fun e w' => ∃ g c : Nat, e = .returned (.agg #[.int .u32 0, .int .u32 id, .string nm, .slice (some ⟨g, 0, none⟩) 4 c]) ∧ Below W.heap.size W w')
  (hyl : y < l.length) (hty : (getD_ tab (l.getD y noIn).ty).kind = 1)
  (h57 : ∀ k (hk : k < l.length), l[k].op ≠ 57) (h15 : ∀ k (hk : k < l.length), l[k].op = 15 → k = at_) (h16 : ∀ k (hk : k < l.length), l[k].op ≠ 16) :
  Calls Tryz.prog 213 #[.pointer (some ⟨K, 0, none⟩), .int .i64 at_] w fun e w' => e = .returned (.bool true) ∧ Below w.heap.size w w' := by
 have HO := Own.nil w
 have HM := hid h.ms
 have g4 := h.c4
 have g3 := h.c3
 have g1 := h.c1
 have zK := block_lt_of_cell g4
 have zb := h.ms.lt
 have e0 := h.ms.op at_ hat
 have e1 := h.ms.ty at_ hat
 have e2 := h.ms.res at_ hat
 have e3 := h.ms.args at_ hat
 rw [hsv, h7] at e3
 rw [hop] at e0
 simp only at e3
 have e0 : w.cell? ⟨b, o + at_ * 4, none⟩ = some (.int .u16 15) := e0
 have t1 := h.ms.ty y hyl
 obtain ⟨lo3, hq⟩ := h.fq
 obtain ⟨zg, f0, f1, f2, f3, f4⟩ := hq.mem
 have cF : ∀ W, Below w.heap.size w W → Calls Tryz.prog 269 #[.pointer (some ⟨K, 0, none⟩), .int .u32 id] W fun e w' => e = .returned (.int .i64 0) ∧ Below W.heap.size W w' := fun W hb => by
  obtain ⟨lo, hq2⟩ := (h.below hb).fq
  exact ffunction_own K gf gc b2 cb id y en W (h.below hb).c3 hq2.mem
 have cT : ∀ W, Below w.heap.size w W → Calls Tryz.prog 163 #[.pointer (some ⟨T, 0, none⟩), .int .u32 (l[y]).ty] W fun e w' => e = .returned (.int .u8 1) ∧ Below W.heap.size W w' := fun W hb => by
  obtain ⟨lo, hp⟩ := (h.below hb).pl
  have := hp.tb.kind (l[y]).ty
  rw [getD_at l hyl] at hty
  rw [hty] at this
  exact this
 have H57 := hid h57
 have H15 := hid h15
 have H16 := hid h16
 have hx := hid (show at_ < l.length from hat)
 clear h hq h57 h15 h16 hsv h7 hop
 have ia : (at_ : Int) < l.length := by omega
 have iy : (y : Int) < l.length := by omega
 generalize (l[y]).ty = tyy at t1 cT
 generalize (l[at_]).ty = tya at e1 cE
 generalize (l[at_]).res = rsa at e2 cE
 clear hat hty hyl
 go_enter Tryz.func213, Tryz.ntmps213
 go_wp2_with (first | ((first | (with_reducible refine sp_al HO ?_; intro g hg; rw [← hg.out]; clear hg) | (with_reducible refine sp_alc HO ?_; intro g hg; rw [← hg.out]; clear hg) | (with_reducible refine sp_sk HO ?_) | (with_reducible refine sp_skc HO ?_) | (refine sp_wk HO rfl 209 _ _ rfl rfl rfl (by kernel_rfl) (by rfl) (by simp [Value.oneCell']) ?_)); intro W' HO'; clear HO; (try clear kk); have HO := HO'; clear HO'; (try simp only [zTz, zTs, zTa] at HO); (try have kk := HO.kk); skip) | (go_at_call 92; (with_reducible refine (cE _ HO.below).mono ?_); rintro e w1 ⟨va, vc, rfl, h2⟩; replace HO := HO.then h2; clear h2; (try clear kk); skip; (try simp only [zTz, zTs, zTa, zDs, zDz] at HO); (try have kk := HO.kk); skip) | (go_at_call 269; (with_reducible refine (cF _ HO.below).mono ?_); rintro e w1 ⟨rfl, hn1⟩; replace HO := HO.then hn1; clear hn1; (try clear kk); skip; (try simp only [zTz, zTs, zTa, zDs, zDz] at HO); (try have kk := HO.kk); skip))
 (try clear kk); skip
 have hcl : ∀ W W2 : World, Below w.heap.size w W → Below W.heap.size W W2 → Below w.heap.size w W2 := fun _ _ h k => bcall h k
 have hSw := HO.drew.below
 refine wp_region_s (S := fun W => Below w.heap.size w W) (by kernel_rfl) ?_
 refine sTk hcl 0 (v := ?_) (hm := ⟨by rfl, .inl ?_⟩) (hSw := hSw) (h := ?_)
 rotate_left
 ·(intro w hw; go_simp; first | done | with_reducible rfl)
 try simp only [Act.put, zTa, zTz, zTs]
 refine sTk hcl 1 (v := ?_) (hm := ⟨by rfl, .inl ?_⟩) (hSw := hSw) (h := ?_)
 rotate_left
 ·(intro w hw; go_simp; first | done | with_reducible rfl)
 try simp only [Act.put, zTa, zTz, zTs]
 refine sTk hcl 2 (v := ?_) (hm := ⟨by rfl, .inl ?_⟩) (hSw := hSw) (h := ?_)
 rotate_left
 ·(intro w hw; go_simp; first | done | with_reducible rfl)
 try simp only [Act.put, zTa, zTz, zTs]
 refine sTk hcl 3 (v := ?_) (hm := ⟨by rfl, .inl ?_⟩) (hSw := hSw) (h := ?_)
 rotate_left
 ·(intro w hw; go_simp; first | done | with_reducible rfl)
 try simp only [Act.put, zTa, zTz, zTs]
 refine sTk hcl 4 (v := ?_) (hm := ⟨by rfl, .inl ?_⟩) (hSw := hSw) (h := ?_)
 rotate_left
 ·(intro w hw; go_simp; first | done | with_reducible rfl)
 try simp only [Act.put, zTa, zTz, zTs]
 refine sTk hcl 5 (v := ?_) (hm := ⟨by rfl, .inl ?_⟩) (hSw := hSw) (h := ?_)
 rotate_left
 ·(intro w hw; go_simp; first | done | with_reducible rfl)
 try simp only [Act.put, zTa, zTz, zTs]
 refine sTk hcl 6 (v := ?_) (hm := ⟨by rfl, .inl ?_⟩) (hSw := hSw) (h := ?_)
 rotate_left
 ·(intro w hw; have q1 := (hw.cell (p := ⟨K, 3, none⟩) zK).trans g3; go_simp; first | done | with_reducible rfl)
 try simp only [Act.put, zTa, zTz, zTs]
 refine sTk hcl 7 (v := ?_) (hm := ⟨by rfl, .inl ?_⟩) (hSw := hSw) (h := ?_)
 rotate_left
 ·(intro w hw; go_simp; first | done | with_reducible rfl)
 try simp only [Act.put, zTa, zTz, zTs]
 refine sTk hcl 8 (v := ?_) (hm := ⟨by rfl, .inl ?_⟩) (hSw := hSw) (h := ?_)
 rotate_left
 ·(intro w hw; go_simp; first | done | with_reducible rfl)
 try simp only [Act.put, zTa, zTz, zTs]
 refine sTk hcl 9 (v := ?_) (hm := ⟨by rfl, .inl ?_⟩) (hSw := hSw) (h := ?_)
 rotate_left
 ·(intro w hw; go_simp; first | done | with_reducible rfl)
 try simp only [Act.put, zTa, zTz, zTs]
 refine sTk hcl 10 (v := ?_) (hm := ⟨by rfl, .inl ?_⟩) (hSw := hSw) (h := ?_)
 rotate_left
 ·(intro w hw; have q1 := (hw.cell (p := ⟨gf, 2, none⟩) zg).trans f2; go_simp; first | done | with_reducible rfl)
 try simp only [Act.put, zTa, zTz, zTs]
 refine sTk hcl 11 (v := ?_) (hm := ⟨by rfl, .inl ?_⟩) (hSw := hSw) (h := ?_)
 rotate_left
 ·(intro w hw; go_simp; first | done | with_reducible rfl)
 try simp only [Act.put, zTa, zTz, zTs]
 refine sTk hcl 12 (v := ?_) (hm := ⟨by rfl, .inl ?_⟩) (hSw := hSw) (h := ?_)
 rotate_left
 ·(intro w hw; go_simp; first | done | with_reducible rfl)
 try simp only [Act.put, zTa, zTz, zTs]
 refine sTk hcl 13 (v := ?_) (hm := ⟨by rfl, .inl ?_⟩) (hSw := hSw) (h := ?_)
 rotate_left
 ·(intro w hw; go_simp; first | done | with_reducible rfl)
 try simp only [Act.put, zTa, zTz, zTs]
 refine sTk hcl 14 (v := ?_) (hm := ⟨by rfl, .inl ?_⟩) (hSw := hSw) (h := ?_)
 rotate_left
 ·(intro w hw; go_simp; first | done | with_reducible rfl)
 try simp only [Act.put, zTa, zTz, zTs]
 refine sTk hcl 15 (v := ?_) (hm := ⟨by rfl, .inl ?_⟩) (hSw := hSw) (h := ?_)
 rotate_left
 ·(intro w hw; go_simp; first | done | with_reducible rfl)
 try simp only [Act.put, zTa, zTz, zTs]
 refine sTk hcl 16 (v := ?_) (hm := ⟨by rfl, .inl ?_⟩) (hSw := hSw) (h := ?_)
 rotate_left
 ·(intro w hw; go_simp; first | done | with_reducible rfl)
 try simp only [Act.put, zTa, zTz, zTs]
 refine sTk hcl 17 (v := ?_) (hm := ⟨by rfl, .inl ?_⟩) (hSw := hSw) (h := ?_)
 rotate_left
 ·(intro w hw; go_simp; first | done | with_reducible rfl)
 try simp only [Act.put, zTa, zTz, zTs]
 refine sTk hcl 18 (v := ?_) (hm := ⟨by rfl, .inl ?_⟩) (hSw := hSw) (h := ?_)
 rotate_left
 ·(intro w hw; have q1 := (hw.cell (p := ⟨K, 1, none⟩) zK).trans g1; go_simp; first | done | with_reducible rfl)
 try simp only [Act.put, zTa, zTz, zTs]
 refine sTk hcl 19 (v := ?_) (hm := ⟨by rfl, .inl ?_⟩) (hSw := hSw) (h := ?_)
 rotate_left
 ·(intro w hw; go_simp; first | done | with_reducible rfl)
 try simp only [Act.put, zTa, zTz, zTs]
 refine sTk hcl 20 (v := ?_) (hm := ⟨by rfl, .inl ?_⟩) (hSw := hSw) (h := ?_)
 rotate_left
 ·(intro w hw; go_simp; first | done | with_reducible rfl)
 try simp only [Act.put, zTa, zTz, zTs]
 refine sTk hcl 21 (v := ?_) (hm := ⟨by rfl, .inl ?_⟩) (hSw := hSw) (h := ?_)
 rotate_left
 ·(intro w hw; go_simp; first | done | with_reducible rfl)
 try simp only [Act.put, zTa, zTz, zTs]
 refine sTk hcl 22 (v := ?_) (hm := ⟨by rfl, .inl ?_⟩) (hSw := hSw) (h := ?_)
 rotate_left
 ·(intro w hw; have q1 := (hw.cell (p := ⟨K, 4, none⟩) zK).trans g4; go_simp; first | done | with_reducible rfl)
 try simp only [Act.put, zTa, zTz, zTs]
 refine sTk hcl 23 (v := ?_) (hm := ⟨by rfl, .inl ?_⟩) (hSw := hSw) (h := ?_)
 rotate_left
 ·(intro w hw; go_simp; first | done | with_reducible rfl)
 try simp only [Act.put, zTa, zTz, zTs]
 refine sTk hcl 24 (v := ?_) (hm := ⟨by rfl, .inl ?_⟩) (hSw := hSw) (h := ?_)
 rotate_left
 ·(intro w hw; go_simp; first | done | with_reducible rfl)
 try simp only [Act.put, zTa, zTz, zTs]
 refine sTk hcl 25 (v := ?_) (hm := ⟨by rfl, .inl ?_⟩) (hSw := hSw) (h := ?_)
 rotate_left
 ·(intro w hw; go_simp; first | done | with_reducible rfl)
 try simp only [Act.put, zTa, zTz, zTs]
 refine sTk hcl 26 (v := ?_) (hm := ⟨by rfl, .inl ?_⟩) (hSw := hSw) (h := ?_)
 rotate_left
 ·(intro w hw; have q1 := (hw.cell (p := ⟨K, 3, none⟩) zK).trans g3; go_simp; first | done | with_reducible rfl)
 try simp only [Act.put, zTa, zTz, zTs]
 refine sTk hcl 27 (v := ?_) (hm := ⟨by rfl, .inl ?_⟩) (hSw := hSw) (h := ?_)
 rotate_left
 ·(intro w hw; go_simp; first | done | with_reducible rfl)
 try simp only [Act.put, zTa, zTz, zTs]
 refine sTk hcl 28 (v := ?_) (hm := ⟨by rfl, .inl ?_⟩) (hSw := hSw) (h := ?_)
 rotate_left
 ·(intro w hw; go_simp; first | done | with_reducible rfl)
 try simp only [Act.put, zTa, zTz, zTs]
 refine sTk hcl 29 (v := ?_) (hm := ⟨by rfl, .inl ?_⟩) (hSw := hSw) (h := ?_)
 rotate_left
 ·(intro w hw; go_simp; first | done | with_reducible rfl)
 try simp only [Act.put, zTa, zTz, zTs]
 refine sTk hcl 30 (v := ?_) (hm := ⟨by rfl, .inl ?_⟩) (hSw := hSw) (h := ?_)
 rotate_left
 ·(intro w hw; have q1 := (hw.cell (p := ⟨gf, 1, none⟩) zg).trans f1; go_simp; first | done | with_reducible rfl)
 try simp only [Act.put, zTa, zTz, zTs]
 refine sTk hcl 31 (v := ?_) (hm := ⟨by rfl, .inl ?_⟩) (hSw := hSw) (h := ?_)
 rotate_left
 ·(intro w hw; go_simp; first | done | with_reducible rfl)
 try simp only [Act.put, zTa, zTz, zTs]
 refine sTk hcl 32 (v := ?_) (hm := ⟨by rfl, .inl ?_⟩) (hSw := hSw) (h := ?_)
 rotate_left
 ·(intro w hw; go_simp; first | done | with_reducible rfl)
 try simp only [Act.put, zTa, zTz, zTs]
 refine sTk hcl 33 (v := ?_) (hm := ⟨by rfl, .inl ?_⟩) (hSw := hSw) (h := ?_)
 rotate_left
 ·(intro w hw; have q1 := (hw.cell (p := ⟨b, o + y * 4 + 1, none⟩) zb).trans t1; go_simp; first | done | with_reducible rfl)
 try simp only [Act.put, zTa, zTz, zTs]
 refine sTk hcl 34 (v := _) (hm := ⟨by rfl, .inr ⟨163, _, ?_, fun w hw => cT w hw⟩⟩) (hSw := hSw) (h := ?_)
 ·(intro w hw; go_simp; (try exact u32_in _ (by omega)))
 try simp only [Act.put, zTa, zTz, zTs]
 refine sTk hcl 35 (v := ?_) (hm := ⟨by rfl, .inl ?_⟩) (hSw := hSw) (h := ?_)
 rotate_left
 ·(intro w hw; go_simp; first | done | with_reducible rfl)
 try simp only [Act.put, zTa, zTz, zTs]
 refine sTk hcl 36 (v := ?_) (hm := ⟨by rfl, .inl ?_⟩) (hSw := hSw) (h := ?_)
 rotate_left
 ·(intro w hw; go_simp; first | done | with_reducible rfl)
 try simp only [Act.put, zTa, zTz, zTs]
 refine wpS_done (by kernel_rfl) (fun W8 hW8 => ?_) _
 replace HO := HO.drew.then hW8
 clear hW8 hSw hcl
 (try simp only [zTz, zTs, zTa, zDs, zDz] at HO); (try have kk := HO.kk); skip
 go_wp2_with fail
 (try clear kk); skip
 obtain ⟨gE, rfl⟩ : ∃ q, q = g := ⟨_, rfl⟩
 have H0 := hid HO
 clear HO
 go_loopw [7, 68] (fun x7 x68 wv => x7 = .bool true ∧ ∃ k : Nat, k ≤ l.length ∧ x68 = .int .i64 k ∧ Own noX w [cls gE #[.int .u32 0, .int .u32 id, .string nm, .slice (some ⟨va, 0, none⟩) 4 vc] 209] wv) (fun _ x _ => l.length - (intOf x).toNat)
 case atStart => exact ⟨rfl, 0, by omega, rfl, H0.out⟩
 case round =>
  obtain ⟨rfl, k, hk, rfl, HO⟩ := hrel
  clear H0
  by_cases hkl : k < l.length
  ·have hMM := HM.out.below HO.below
   have e4 := hMM.op k hkl
   have e5 := hMM.ty k hkl
   have e6 := hMM.res k hkl
   have e7 := hMM.args k hkl
   have n57 := H57.out k hkl
   have n16 := H16.out k hkl
   have n15 := H15.out k hkl
   have zb2 := hMM.lt
   clear hMM
   have i4 : (k : Int) < l.length := by omega
   have HK := hid hkl
   have i5 : ((l[k].op : Int) == 57) = false := by rw [beq_eq_false_iff_ne]; omega
   have i6 : ((l[k].op : Int) == 16) = false := by rw [beq_eq_false_iff_ne]; omega
   by_cases hke : k = at_
   ·subst hke
    have ho2 := Own.old HO
    clear e4 e5 e6 e7 n57 n16 n15 i5 i6 hkl
    have i8 : ¬ ((k : Int) < k) := by omega
    (try simp only [zTz, zTs, zTa, zDs, zDz] at HO); (try have kk := HO.kk); skip
    go_wp2_with (first | ((first | (with_reducible refine sp_al HO ?_; intro g hg; rw [← hg.out]; clear hg) | (with_reducible refine sp_alc HO ?_; intro g hg; rw [← hg.out]; clear hg) | (with_reducible refine sp_sk HO ?_) | (with_reducible refine sp_skc HO ?_) | (refine sp_wk HO rfl 41 _ _ rfl rfl rfl (by kernel_rfl) (by rfl) (by simp [Value.oneCell']) ?_)); intro W' HO'; clear HO; (try clear kk); have HO := HO'; clear HO'; (try simp only [zTz, zTs, zTa] at HO); (try have kk := HO.kk); skip))
    (with_reducible refine (cE _ HO.below).mono ?_); rintro e w1 ⟨va2, vc2, rfl, h2⟩; replace HO := HO.then h2; clear h2; (try clear kk); skip; (try simp only [zTz, zTs, zTa, zDs, zDz] at HO); (try have kk := HO.kk); skip
    go_wp2_with fail
    exact ⟨⟨rfl, k + 1, HK.out, by go_num, (HO.alloc _).drop 2⟩, by have := HK.out; simp [intOf]; omega⟩
   ·have n15' : l[k].op ≠ 15 := fun e => hke (n15 e)
    have i7 : ((l[k].op : Int) == 15) = false := by rw [beq_eq_false_iff_ne]; omega
    generalize l[k] = i at e4 e5 e6 e7 i5 i6 i7
    generalize sv k = s at e7
    obtain ⟨sa, sc⟩ := s
    simp only at e7
    clear n57 n16 n15 n15' hkl
    (try simp only [zTz, zTs, zTa, zDs, zDz] at HO); (try have kk := HO.kk); skip
    go_wp2_with (first | ((first | (with_reducible refine sp_al HO ?_; intro g hg; rw [← hg.out]; clear hg) | (with_reducible refine sp_sk HO ?_) | (with_reducible refine sp_skc HO ?_) | (refine sp_wk HO rfl 41 _ _ rfl rfl rfl (by kernel_rfl) (by rfl) (by simp [Value.oneCell']) ?_)); intro W' HO'; clear HO; (try clear kk); have HO := HO'; clear HO'; (try simp only [zTz, zTs, zTa] at HO); (try have kk := HO.kk); skip))
    exact ⟨⟨rfl, k + 1, HK.out, by go_num, HO.drop 1⟩, by have := HK.out; simp [intOf]; omega⟩
  ·obtain rfl : k = l.length := by omega
   have i4 : ¬ (((l.length : Nat) : Int) < l.length) := by omega
   go_wp2_with fail
   go_ret
   exact ⟨rfl, HO.below⟩
end
end Go.Proofs.YtbhijdmlonplgaaGreatDoor
