/- Typing: alike, arithmetic, load, store. -/
import Derived.Test.YtlkolghiknbbfaaGreatDoorBc
import Derived.Test.YtlkolghiknbbfaaGreatDoorBd
set_option linter.unusedVariables false
set_option linter.unusedSimpArgs false
set_option maxRecDepth 100000
set_option maxHeartbeats 4000000
namespace Go.Proofs.YtlkolghiknbbfaaGreatDoor
open Go.RowKit Go.MapKept
section
variable {K T mk b o cap back : Nat} {l : List In} {sv : Nat → Option Addr × Nat} {fm : Nat → Option Nat} {tab : Nat → Option dU} {w : World}
theorem Bb (r : Bool) (h : uz K T mk b o cap back l sv fm tab w) (ab ao cm x y jx jy ty : Nat) (h2 : Two ab ao x y w) (hx : fm x = some jx) (hy : fm y = some jy) (ox : (l.getD jx ai).op ≠ 54) (oy : (l.getD jy ai).op ≠ 54)
  (cA : ∀ W, Bl w W → Qc 431 #[.pointer (some ⟨T, 0, none⟩), .int .u32 ty, .int .u32 (l.getD jx ai).ty] W (.bool r))
  (cB : ∀ W, Bl w W → Qc 431 #[.pointer (some ⟨T, 0, none⟩), .int .u32 ty, .int .u32 (l.getD jy ai).ty] W (.bool r)) :
  Qc 393 #[.pointer (some ⟨K, 0, none⟩), .int .u32 ty, .slice (some ⟨ab, ao, none⟩) 2 cm] w (.bool r) := by
 have HO := Own.nil w;have cC : ∀ (B C : Nat) (W : World), Bl w W → W.cell? ⟨B, 0, none⟩ = some (.pointer (some ⟨K, 0, none⟩)) → W.cell? ⟨C, 0, none⟩ = some (.int .u32 ty) → Qc 429 #[.slice (some ⟨ab, ao, none⟩) 2 cm, .func (.func 430) #[] #[.pointer (some ⟨B, 0, none⟩), .pointer (some ⟨C, 0, none⟩)]] W (.bool (!r)) := fun B C W hb hB hC => by
  have zB := block_lt_of_cell hB;have zC := block_lt_of_cell hC;have cX : ∀ W2, Bl W W2 → Qc 430 #[.agg #[.int .u8 1, .int .u32 x, .string ⟨#[]⟩], .pointer (some ⟨B, 0, none⟩), .pointer (some ⟨C, 0, none⟩)] W2 (.bool (!r)) := fun W2 hb2 =>
   sZ r ((h.below hb).below hb2) B C ty x jx 1 ⟨#[]⟩ (ae hB zB hb2) (ae hC zC hb2) hx ox (fun W3 hb3 => cA W3 (az (az hb hb2) hb3))
  have cY : ∀ W2, Bl W W2 → Qc 430 #[.agg #[.int .u8 1, .int .u32 y, .string ⟨#[]⟩], .pointer (some ⟨B, 0, none⟩), .pointer (some ⟨C, 0, none⟩)] W2 (.bool (!r)) := fun W2 hb2 =>
   sZ r ((h.below hb).below hb2) B C ty y jy 1 ⟨#[]⟩ (ae hB zB hb2) (ae hC zC hb2) hy oy (fun W3 hb3 => cB W3 (az (az hb hb2) hb3))
  have h3 := h2.below hb
  cases r with
  | true => exact nD ab ao cm B C false (-1) (.inl ⟨rfl, rfl⟩) (fun W2 hb2 => xZ ab ao cm B C x y (h3.below hb2) (fun W3 hb3 => cX W3 (az hb2 hb3)) (fun W3 hb3 => cY W3 (az hb2 hb3)))
  | false => exact nD ab ao cm B C true 0 (.inr ⟨rfl, rfl⟩) (fun W2 hb2 => xR ab ao cm B C x y (h3.below hb2) (fun W3 hb3 => cX W3 (az hb2 hb3)))
 clear cA cB h h2 hx hy ox oy;go_enter Tryz.func393, Tryz.ntmps393;go_wp2_with (first | ((first | ((with_reducible refine aB HO ?_); intro g hg; rw [← hg.out]; clear hg) | (with_reducible refine ah HO ?_)); clear HO; (try clear kk); intro W' HO kk));rename_i gB W1 K1 a1;have cc := cC _ _ W' HO.below (HO.cell 1 0 rfl rfl) (HO.cell 0 0 rfl rfl);refine cc.mono ?_;clear cc cC;rintro e w1 ⟨rfl, hn1⟩;replace HO := HO.then hn1
 clear hn1
 cases r
 all_goals
  go_wp2_with fail;go_ret;exact ⟨rfl, HO.below⟩
theorem Am (r : Bool) (op ty res ab ao cm : Nat)
  (cN : ∀ W, Bl w W → Qc 392 #[.pointer (some ⟨K, 0, none⟩), .int .u32 ty] W (.bool true))
  (cA : ∀ W, Bl w W → Qc 393 #[.pointer (some ⟨K, 0, none⟩), .int .u32 ty, .slice (some ⟨ab, ao, none⟩) 2 cm] W (.bool r)) :
  Qc 360 #[.pointer (some ⟨K, 0, none⟩), .agg #[.int .u16 op, .int .u32 ty, .int .u32 res, .slice (some ⟨ab, ao, none⟩) 2 cm]] w (.bool r) := by
 have HO := Own.nil w;go_enter Tryz.func360, Tryz.ntmps360;go_wp2_with (first | ((first | ((with_reducible refine aB HO ?_); intro g hg; rw [← hg.out]; clear hg) | (with_reducible refine ah HO ?_)); clear HO; (try clear kk); intro W' HO kk) | (go_at_call 392; with_reducible refine bq HO (cN _ HO.below) ?_; clear HO; (try clear kk); intro w1 HO kk) | (go_at_call 393; with_reducible refine bq HO (cA _ HO.below) ?_; clear HO; (try clear kk); intro w1 HO kk));go_ret;exact ⟨rfl, HO.below⟩
theorem tJ (h : uz K T mk b o cap back l sv fm tab w) (ty res ab ao cm x j : Nat) (d : dU) (hx : w.cell? ⟨ab, ao + 1, none⟩ = some (.int .u32 x)) (hf : fm x = some j) (hop : (l.getD j ai).op ≠ 54) (hd : tab (l.getD j ai).ty = some d) (hk : d.kind = 7) (ht : d.times = 0) (hp : d.parts = [ty]) (h0 : ty ≠ 0) :
  Qc 400 #[.pointer (some ⟨K, 0, none⟩), .agg #[.int .u16 61, .int .u32 ty, .int .u32 res, .slice (some ⟨ab, ao, none⟩) 1 cm]] w (.bool true) := by
 have HO := Own.nil w;have zA := block_lt_of_cell hx;have cO : ∀ W, Bl w W → Qc 394 #[.pointer (some ⟨K, 0, none⟩), .int .u32 x] W (.int .u32 (l.getD j ai).ty) := fun W hb => oh (h.below hb) x j hf hop
 have cT : ∀ W, Bl w W → Qc 434 #[.pointer (some ⟨K, 0, none⟩), .int .u32 (l.getD j ai).ty] W (.tuple #[.int .u32 ty, .int .u32 d.aP]) := fun W hb => zJ (h.below hb) _ ty d hd hk ht hp
 clear h hf hop hd hk ht hp;generalize (l.getD j ai).ty = tp at cO cT;have i1 : ((ty : Int) != 0) = true := by rw [bne_iff_ne]; omega
 clear h0;go_enter Tryz.func400, Tryz.ntmps400;go_wp2_with (first | ((first | ((with_reducible refine aB HO ?_); intro g hg; rw [← hg.out]; clear hg) | (with_reducible refine ah HO ?_)); clear HO; (try clear kk); intro W' HO kk) | (go_at_call 394; with_reducible refine bq HO (cO _ HO.below) ?_; clear HO; (try clear kk); intro w1 HO kk) | (go_at_call 434; with_reducible refine bq HO (cT _ HO.below) ?_; clear HO; (try clear kk); intro w1 HO kk));go_ret;exact ⟨rfl, HO.below⟩
theorem qx (h : uz K T mk b o cap back l sv fm tab w) (ty res ab ao cm x y jx jy : Nat) (d : dU) (hx : w.cell? ⟨ab, ao + 1, none⟩ = some (.int .u32 x)) (hy : w.cell? ⟨ab, ao + 4, none⟩ = some (.int .u32 y)) (hf : fm x = some jx) (hg : fm y = some jy) (ox : (l.getD jx ai).op ≠ 54) (oy : (l.getD jy ai).op ≠ 54) (hd : tab (l.getD jx ai).ty = some d) (hk : d.kind = 7) (ht : d.times = 0) (hp : d.parts = [(l.getD jy ai).ty]) (h0 : (l.getD jy ai).ty ≠ 0) (hc : d.aP ≠ 1) :
  Qc 401 #[.pointer (some ⟨K, 0, none⟩), .agg #[.int .u16 62, .int .u32 ty, .int .u32 res, .slice (some ⟨ab, ao, none⟩) 2 cm]] w (.bool true) := by
 have HO := Own.nil w;have zA := block_lt_of_cell hx;have cO : ∀ W, Bl w W → Qc 394 #[.pointer (some ⟨K, 0, none⟩), .int .u32 x] W (.int .u32 (l.getD jx ai).ty) := fun W hb => oh (h.below hb) x jx hf ox
 have cO2 : ∀ W, Bl w W → Qc 394 #[.pointer (some ⟨K, 0, none⟩), .int .u32 y] W (.int .u32 (l.getD jy ai).ty) := fun W hb => oh (h.below hb) y jy hg oy
 have cT : ∀ W, Bl w W → Qc 434 #[.pointer (some ⟨K, 0, none⟩), .int .u32 (l.getD jx ai).ty] W (.tuple #[.int .u32 (l.getD jy ai).ty, .int .u32 d.aP]) := fun W hb => zJ (h.below hb) _ _ d hd hk ht hp
 clear h hf hg ox oy hd hk ht hp;generalize (l.getD jx ai).ty = tp at cO cT;generalize (l.getD jy ai).ty = tq at cO2 cT h0;generalize d.aP = cl at cT hc;have i1 : ((tq : Int) != 0) = true := by rw [bne_iff_ne]; omega
 have i2 : ((cl : Int) != 1) = true := by rw [bne_iff_ne]; omega
 clear h0 hc;go_enter Tryz.func401, Tryz.ntmps401;go_wp2_with (first | ((first | ((with_reducible refine aB HO ?_); intro g hg; rw [← hg.out]; clear hg) | (with_reducible refine ah HO ?_)); clear HO; (try clear kk); intro W' HO kk) | (go_at_call 394; (first | (with_reducible refine (cO _ HO.below).mono ?_) | (with_reducible refine (cO2 _ HO.below).mono ?_)); rintro e w1 ⟨rfl, hn1⟩; replace HO := HO.then hn1; clear hn1; (try clear kk); have kk := HO.kk) | (go_at_call 434; with_reducible refine bq HO (cT _ HO.below) ?_; clear HO; (try clear kk); intro w1 HO kk));go_ret;exact ⟨rfl, HO.below⟩
theorem FM (h : uz K T mk b o cap back l sv fm tab w) (f rt : Nat) (d : dU) (hd : tab f = some d) (hk : d.kind = 8) (ht : d.times = 0) (hp : d.parts = [rt]) :
  Qc 353 #[.pointer (some ⟨K, 0, none⟩), .int .u32 f, .int .u32 rt, .slice none 0 0] w (.bool true) := by
 have HO := Own.nil w;have g0 := h.c0;have zK := block_lt_of_cell g0;have ed : aD tab f = d := by unfold aD; rw [hd]; rfl
 have cK : ∀ W, Bl w W → Qc 142 #[.pointer (some ⟨T, 0, none⟩), .int .u32 f] W (.int .u8 8) := fun W hb => by
  obtain ⟨lo, ht⟩ := (h.below hb).tb;have := ht.kind f;rw [ed, hk] at this;exact this
 have cC : ∀ W, Bl w W → Qc 175 #[.pointer (some ⟨T, 0, none⟩), .int .u32 f] W (.int .i64 1) := fun W hb => by
  obtain ⟨lo, ht2⟩ := (h.below hb).tb;have := ht2.count f (by rw [ed, ht, hp]; simp);rw [ed, ht, hp] at this;exact this
 have cP : ∀ W, Bl w W → Qc 391 #[.pointer (some ⟨K, 0, none⟩), .int .u32 f, .int .i64 0] W (.int .u32 rt) := fun W hb =>
  nH (K := K) (T := T) (w := W) f 0 rt true (h.below hb).c0 (fun W2 hb2 => by
   obtain ⟨lo, ht2⟩ := ((h.below hb).below hb2).tb
   exact ht2.part_list f 0 rt d hd ht (by rw [hp]; rfl) (by rw [hp]; simp))
 clear h hd hk ht hp ed;go_enter Tryz.func353, Tryz.ntmps353;go_wp2_with (first | (go_at_call 142; (with_reducible refine (cK _ HO.below).mono ?_); rintro e w1 ⟨rfl, hn1⟩; replace HO := HO.then hn1; clear hn1; (try clear ho); have ho := Own.old HO) | (go_at_call 175; (with_reducible refine (cC _ HO.below).mono ?_); rintro e w1 ⟨rfl, hn1⟩; replace HO := HO.then hn1; clear hn1; (try clear ho); have ho := Own.old HO) | (go_at_call 391; (with_reducible refine (cP _ HO.below).mono ?_); rintro e w1 ⟨rfl, hn1⟩; replace HO := HO.then hn1; clear hn1; (try clear ho); have ho := Own.old HO));refine wp_loop_rounds 1 ?_;rw [rounds_succ];go_wp2_with fail;go_ret;exact ⟨rfl, HO.below⟩
theorem CO (h : uz K T mk b o cap back l sv fm tab w) (k rt res ab ao cm f : Nat) (d : dU) (hcap : l.length ≤ cap) (hn : l.length ≤ 2000) (hk1 : k + 1 < l.length) (h55 : l[k + 1].op ≠ 55) (hx : w.cell? ⟨ab, ao + 4, none⟩ = some (.int .u32 f)) (hd : tab f = some d) (hk : d.kind = 8) (ht : d.times = 0) (hp : d.parts = [rt]) :
  Qc 312 #[.pointer (some ⟨K, 0, none⟩), .agg #[.int .u16 54, .int .u32 rt, .int .u32 res, .slice (some ⟨ab, ao, none⟩) 2 cm], .int .i64 k] w (.bool true) := by
 have HO := Own.nil w;have g2 := h.c2;have zK := block_lt_of_cell g2;have zA := block_lt_of_cell hx;have zb := h.ms.lt;have e0 := h.ms.op (k + 1) hk1;have e1 := h.ms.ty (k + 1) hk1;have e2 := h.ms.res (k + 1) hk1;have e3 := h.ms.args (k + 1) hk1;have cS : ∀ W, Bl w W → Qc 353 #[.pointer (some ⟨K, 0, none⟩), .int .u32 f, .int .u32 rt, .slice none 0 0] W (.bool true) := fun W hb => FM (h.below hb) f rt d hd hk ht hp
 have t0 : ((l[k + 1].op : Int) == 55) = false := by rw [beq_eq_false_iff_ne]; omega
 clear h hd hk ht hp h55;generalize l[k + 1] = i at e0 e1 e2 e3 t0;generalize sv (k + 1) = s at e3;obtain ⟨sa, sc⟩ := s;simp only at e3;have i5 : (k : Int) + 1 < l.length := by omega
 have i6 : (k : Int) + 1 ≤ l.length := by omega
 go_enter Tryz.func312, Tryz.ntmps312;go_wp2_with (first | ((first | ((with_reducible refine aB HO ?_); intro g hg; rw [← hg.out]; clear hg) | (with_reducible refine ah HO ?_)); clear HO; (try clear kk); intro W' HO kk));refine wp_loop_rounds 1 ?_;rw [rounds_succ];go_wp2_with (first | ((first | (with_reducible refine bf HO ?_; intro g hg; rw [← hg.out]; clear hg) | (with_reducible refine ah HO ?_) | (refine ay 73 HO ?_)); clear HO; (try clear kk); intro W' HO kk));replace HO := HO.drop 1;simp only [List.drop_succ_cons, List.drop_zero] at HO;(try clear kk);(try simp only [yD] at HO); have kk := HO.kk;have bl := HO.below;have q0 := bl.cell (p := ⟨ab, ao + 4, none⟩) zA;rw [hx] at q0;have zA2 : ab < W'.heap.size := Nat.lt_of_lt_of_le zA bl.size;have z0 := HO.lt 0 rfl;have B0 := Below.refl W'.heap.size W';have cS1 : ∀ W, Bl W' W → _ := fun W hb => cS W (bl.trans (hb.mono bl.size))
 clear cS;(try replace kk := kk.2);go_cut [6] (fun s6 wx => s6 = .bool true ∧ Bl w wx)
 case first =>
  go_region_held3 (fun W => (∀ b j, b < W'.heap.size → W.cell? ⟨b, j, none⟩ = W'.cell? ⟨b, j, none⟩) ∧ Bl W' W) ((refine mkS W' _ ?_; repeat (first | exact B0 | refine aQ ?_ | refine bP ?_ _ | refine az ?_ hn1.out | refine aG ?_ (by first | assumption | omega) _ | refine aR ?_ (by first | assumption | omega))))
   (first | (go_at_call 353; (with_reducible refine (cS1 _ (by repeat (first | exact B0 | refine aQ ?_ | refine bP ?_ _ | refine az ?_ hn1.out | refine aG ?_ (by first | assumption | omega) _ | refine aR ?_ (by first | assumption | omega)))).mono ?_); rintro e w2 ⟨rfl, hn0⟩; have hn1 := hid hn0; clear hn0))
  all_goals
   go_wp2_with fail;rename_i hh;go_meet;exact ⟨rfl, bl.trans (hh.2.mono bl.size)⟩
 case rest =>
 obtain ⟨rfl, h1⟩ := hcut;go_wp2_with fail;go_ret;exact ⟨rfl, h1⟩
end
def MW (K n : Nat) : Value := .func (.func n) #[.pointer (some ⟨K, 0, none⟩)] #[]
def Nt (K op : Nat) : Value := if op = 61 then MW K 400 else if op = 62 then MW K 401 else if op = 253 then MW K 364 else if op = 56 ∨ op = 248 then .nilFunc else MW K 360
theorem Fj (K op : Nat) (v : Value) (h : op = 61 ∧ v = MW K 400 ∨ op = 62 ∧ v = MW K 401 ∨ op = 56 ∧ v = .nilFunc ∨ op = 248 ∧ v = .nilFunc) (w : World) :
  Qc 366 #[.pointer (some ⟨K, 0, none⟩), .int .u16 op] w v := by
 unfold MW at h;rcases h with ⟨rfl, rfl⟩ | ⟨rfl, rfl⟩ | ⟨rfl, rfl⟩ | ⟨rfl, rfl⟩
 all_goals
  go_enter Tryz.func366, Tryz.ntmps366;go_wp2_with fail;go_ret;exact ⟨rfl, Below.refl _ _⟩
theorem iV (K op : Nat) (v : Value) (h : op = 61 ∧ v = MW K 400 ∨ op = 62 ∧ v = MW K 401 ∨ op = 56 ∧ v = .nilFunc ∨ op = 248 ∧ v = .nilFunc) (w : World) :
  Qc 313 #[.pointer (some ⟨K, 0, none⟩), .int .u16 op] w v := by
 have cM := fun W => Fj K op v h W
 have HO := Own.nil w;have ho : op = 61 ∨ op = 62 ∨ op = 56 ∨ op = 248 := by
  rcases h with ⟨h, -⟩ | ⟨h, -⟩ | ⟨h, -⟩ | ⟨h, -⟩ <;> simp [h]
 clear h;rcases ho with rfl | rfl | rfl | rfl
 ·have cQ : ∀ W, Qc 366 #[.pointer (some ⟨K, 0, none⟩), .int .u16 61] W v := cM
  go_enter Tryz.func313, Tryz.ntmps313;go_wp2_with (first | (go_at_call 366; with_reducible refine fF HO (cQ _) ?_; clear HO; intro w1 HO));go_ret;exact ⟨rfl, HO.below⟩
 ·have cQ : ∀ W, Qc 366 #[.pointer (some ⟨K, 0, none⟩), .int .u16 62] W v := cM
  go_enter Tryz.func313, Tryz.ntmps313;go_wp2_with (first | (go_at_call 366; with_reducible refine fF HO (cQ _) ?_; clear HO; intro w1 HO));go_ret;exact ⟨rfl, HO.below⟩
 ·have cQ : ∀ W, Qc 366 #[.pointer (some ⟨K, 0, none⟩), .int .u16 56] W v := cM
  go_enter Tryz.func313, Tryz.ntmps313;go_wp2_with (first | (go_at_call 366; with_reducible refine fF HO (cQ _) ?_; clear HO; intro w1 HO));go_ret;exact ⟨rfl, HO.below⟩
 ·have cQ : ∀ W, Qc 366 #[.pointer (some ⟨K, 0, none⟩), .int .u16 248] W v := cM
  go_enter Tryz.func313, Tryz.ntmps313;go_wp2_with (first | (go_at_call 366; with_reducible refine fF HO (cQ _) ?_; clear HO; intro w1 HO));go_ret;exact ⟨rfl, HO.below⟩
theorem qE (K op : Nat) (h : eH op = true ∨ op = 253) (w : World) :
  Qc 313 #[.pointer (some ⟨K, 0, none⟩), .int .u16 op] w (Nt K op) := by
 have hm : op ∈ [128, 130, 132, 134, 135, 137, 138, 139, 194, 195, 196, 197, 198, 199, 253] := by
  rcases h with h | h
  ·have := dn h
   exact List.mem_append_left [253] this
  ·subst h; decide
 clear h;simp only [List.mem_cons, List.not_mem_nil, or_false] at hm;rcases hm with rfl | rfl | rfl | rfl | rfl | rfl | rfl | rfl | rfl | rfl | rfl | rfl | rfl | rfl | rfl
 all_goals
  go_enter Tryz.func313, Tryz.ntmps313;go_wp2_with fail;go_ret;exact ⟨rfl, Below.refl _ _⟩
theorem oF (op ty res : Nat) (v : Value) (r : Bool) (h : op ≠ 59) (hr : ((aS op).part == 8) = r) (w : World) :
  Qc 311 #[.agg #[.int .u16 op, .int .u32 ty, .int .u32 res, v]] w (.bool r) := by
 have HO := Own.nil w;have cO := fun W => tH op W
 generalize aS op = f at hr cO;obtain ⟨fo, fn, ft, fr, ff, fs, fmm, fp⟩ := f;unfold Fm.val Fm.cells at cO;simp only at cO hr;have i1 : ((op : Int) == 59) = false := by rw [beq_eq_false_iff_ne]; omega
 have i2 : ((fp : Int) == 8) = r := by rw [← hr, Bool.eq_iff_iff, beq_iff_eq, beq_iff_eq]; omega
 clear h hr;go_enter Tryz.func311, Tryz.ntmps311;go_wp2_with (first | ((first | ((with_reducible refine aB HO ?_); intro g hg; rw [← hg.out]; clear hg) | (with_reducible refine ah HO ?_) | (refine ay 352 HO ?_)); clear HO; (try clear kk); intro W' HO kk) | (go_at_call 266; with_reducible refine bq HO (cO _) ?_; clear HO; (try clear kk); intro w1 HO kk))
 all_goals
  go_ret;exact ⟨by simp_all, HO.below⟩
theorem jU (ty res ab ao cm c : Nat) (w : World) (hc : c ≠ 7) (hx : w.cell? ⟨ab, ao + 1, none⟩ = some (.int .u32 c)) :
  Qc 311 #[.agg #[.int .u16 59, .int .u32 ty, .int .u32 res, .slice (some ⟨ab, ao, none⟩) 1 cm]] w (.bool false) := by
 have HO := Own.nil w;have zA := block_lt_of_cell hx;have i1 : ((c : Int) == 7) = false := by rw [beq_eq_false_iff_ne]; omega
 clear hc;go_enter Tryz.func311, Tryz.ntmps311;go_wp2_with (first | ((first | ((with_reducible refine aB HO ?_); intro g hg; rw [← hg.out]; clear hg) | (with_reducible refine ah HO ?_)); clear HO; (try clear kk); intro W' HO kk));go_ret;exact ⟨rfl, HO.below⟩
theorem KZ (w : World) : (binOp .neq 230 .nilFunc .nilFunc).run Tryz.prog w = .ok (.bool false) w := by kernel_rfl
theorem xG (n : Nat) (xs ys : Array Value) (w : World) : (binOp .neq 230 (.func (.func n) xs ys) .nilFunc).run Tryz.prog w = .ok (.bool true) w := by kernel_rfl
section
variable {K T mk b o cap back : Nat} {l : List In} {sv : Nat → Option Addr × Nat} {fm : Nat → Option Nat} {tab : Nat → Option dU} {w : World}
theorem ji (h : uz K T mk b o cap back l sv fm tab w) (k : Nat) (hk : k < l.length)
  (cA : ∀ W, Bl w W → Qc 311 #[uB l[k] (sv k)] W (.bool false)) :
  Qc 275 #[.pointer (some ⟨K, 0, none⟩), .int .i64 k] w (.bool true) := by
 have HO := Own.nil w;have g2 := h.c2;have zK := block_lt_of_cell g2;have zb := h.ms.lt;have e0 := h.ms.op k hk;have e1 := h.ms.ty k hk;have e2 := h.ms.res k hk;have e3 := h.ms.args k hk;clear h;have i5 : (k : Int) < l.length := by omega
 obtain ⟨ll, hll⟩ : ∃ ll, Hid (ll = l.length) := ⟨_, hid rfl⟩;rw [← hll.out] at i5 g2;generalize l[k] = i at e0 e1 e2 e3 cA;generalize sv k = s at e3 cA;obtain ⟨op, ty, res, args⟩ := i;obtain ⟨sa, sc⟩ := s;unfold uB at cA;simp only at e0 e1 e2 e3 cA;go_enter Tryz.func275, Tryz.ntmps275;go_wp2_with (first | ((first | ((with_reducible refine aB HO ?_); intro g hg; rw [← hg.out]; clear hg) | (with_reducible refine ah HO ?_) | (refine ay 73 HO ?_)); clear HO; (try clear kk); intro W' HO kk) | (refine bG 73 HO Tryz.underlying73 ?_) | (go_at_call 311; with_reducible refine bq HO (cA _ HO.below) ?_; clear HO; (try clear kk); intro w1 HO kk));go_ret;exact ⟨rfl, HO.below⟩
theorem FU (h : uz K T mk b o cap back l sv fm tab w) (k : Nat) (hk : k < l.length) (hop : l[k].op = 54)
  (cA : ∀ W, Bl w W → Qc 311 #[uB l[k] (sv k)] W (.bool true))
  (cF : ∀ W, Bl w W → Qc 312 #[.pointer (some ⟨K, 0, none⟩), uB l[k] (sv k), .int .i64 k] W (.bool true)) :
  Qc 275 #[.pointer (some ⟨K, 0, none⟩), .int .i64 k] w (.bool true) := by
 have HO := Own.nil w;have g2 := h.c2;have zK := block_lt_of_cell g2;have zb := h.ms.lt;have e0 := h.ms.op k hk;have e1 := h.ms.ty k hk;have e2 := h.ms.res k hk;have e3 := h.ms.args k hk;clear h;have i5 : (k : Int) < l.length := by omega
 obtain ⟨ll, hll⟩ : ∃ ll, Hid (ll = l.length) := ⟨_, hid rfl⟩;rw [← hll.out] at i5 g2;generalize l[k] = i at e0 e1 e2 e3 cA cF hop;generalize sv k = s at e3 cA cF;obtain ⟨op, ty, res, args⟩ := i;obtain ⟨sa, sc⟩ := s;unfold uB at cA cF;simp only at e0 e1 e2 e3 cA cF hop;subst hop;have e0' : w.cell? ⟨b, o + k * 4, none⟩ = some (.int .u16 54) := e0;have cA' : ∀ W, Bl w W → Qc 311 #[.agg #[.int .u16 54, .int .u32 ty, .int .u32 res, .slice sa args.length sc]] W (.bool true) := cA;have cF' : ∀ W, Bl w W → Qc 312 #[.pointer (some ⟨K, 0, none⟩), .agg #[.int .u16 54, .int .u32 ty, .int .u32 res, .slice sa args.length sc], .int .i64 k] W (.bool true) := cF;clear e0 cA cF;go_enter Tryz.func275, Tryz.ntmps275;go_wp2_with (first | ((first | ((with_reducible refine aB HO ?_); intro g hg; rw [← hg.out]; clear hg) | (with_reducible refine ah HO ?_) | (refine ay 73 HO ?_)); clear HO; (try clear kk); intro W' HO kk) | (refine bG 73 HO Tryz.underlying73 ?_) | (go_at_call 311; with_reducible refine bq HO (cA' _ HO.below) ?_; clear HO; (try clear kk); intro w1 HO kk) | (go_at_call 312; with_reducible refine bq HO (cF' _ HO.below) ?_; clear HO; (try clear kk); intro w1 HO kk));go_ret;exact ⟨rfl, HO.below⟩
theorem uy (h : uz K T mk b o cap back l sv fm tab w) (k : Nat) (hk : k < l.length) (hop : l[k].op ≠ 54)
  (cA : ∀ W, Bl w W → Qc 311 #[uB l[k] (sv k)] W (.bool true))
  (cF : ∀ W, Bl w W → Calls Tryz.prog 313 #[.pointer (some ⟨K, 0, none⟩), .int .u16 l[k].op] W fun e w' => e = .returned .nilFunc ∧ Bl W w') :
  Qc 275 #[.pointer (some ⟨K, 0, none⟩), .int .i64 k] w (.bool true) := by
 have HO := Own.nil w;have g2 := h.c2;have zK := block_lt_of_cell g2;have zb := h.ms.lt;have e0 := h.ms.op k hk;have e1 := h.ms.ty k hk;have e2 := h.ms.res k hk;have e3 := h.ms.args k hk;clear h;have i5 : (k : Int) < l.length := by omega
 obtain ⟨ll, hll⟩ : ∃ ll, Hid (ll = l.length) := ⟨_, hid rfl⟩;rw [← hll.out] at i5 g2;generalize l[k] = i at e0 e1 e2 e3 cA cF hop;generalize sv k = s at e3 cA cF;obtain ⟨op, ty, res, args⟩ := i;obtain ⟨sa, sc⟩ := s;unfold uB at cA;simp only at e0 e1 e2 e3 cA cF hop;have i1 : ((op : Int) == 54) = false := by rw [beq_eq_false_iff_ne]; omega
 clear hop;have he := KZ;go_enter Tryz.func275, Tryz.ntmps275;go_wp2_with (first | ((first | ((with_reducible refine aB HO ?_); intro g hg; rw [← hg.out]; clear hg) | (with_reducible refine ah HO ?_) | (refine ay 73 HO ?_)); clear HO; (try clear kk); intro W' HO kk) | (refine bG 73 HO Tryz.underlying73 ?_) | (go_at_call 311; with_reducible refine bq HO (cA _ HO.below) ?_; clear HO; (try clear kk); intro w1 HO kk) | (go_at_call 313; with_reducible refine bq HO (cF _ HO.below) ?_; clear HO; (try clear kk); intro w1 HO kk));go_ret;exact ⟨rfl, HO.below⟩
theorem gJ (h : uz K T mk b o cap back l sv fm tab w) (k F : Nat) (r : Bool) (hk : k < l.length) (hop : l[k].op ≠ 54)
  (cA : ∀ W, Bl w W → Qc 311 #[uB l[k] (sv k)] W (.bool true))
  (cF : ∀ W, Bl w W → Qc 313 #[.pointer (some ⟨K, 0, none⟩), .int .u16 l[k].op] W (.func (.func F) #[.pointer (some ⟨K, 0, none⟩)] #[]))
  (hF : F = 360 ∨ F = 400 ∨ F = 401 ∨ F = 364)
  (cG : ∀ W, Bl w W → Calls Tryz.prog F #[.pointer (some ⟨K, 0, none⟩), uB l[k] (sv k)] W fun e w' => e = .returned (.bool r) ∧ Bl W w') :
  Qc 275 #[.pointer (some ⟨K, 0, none⟩), .int .i64 k] w (.bool r) := by
 have HO := Own.nil w;have g2 := h.c2;have zK := block_lt_of_cell g2;have zb := h.ms.lt;have e0 := h.ms.op k hk;have e1 := h.ms.ty k hk;have e2 := h.ms.res k hk;have e3 := h.ms.args k hk;clear h;have i5 : (k : Int) < l.length := by omega
 obtain ⟨ll, hll⟩ : ∃ ll, Hid (ll = l.length) := ⟨_, hid rfl⟩;rw [← hll.out] at i5 g2;generalize l[k] = i at e0 e1 e2 e3 cA cF cG hop;generalize sv k = s at e3 cA cF cG;obtain ⟨op, ty, res, args⟩ := i;obtain ⟨sa, sc⟩ := s;unfold uB at cA cG;simp only at e0 e1 e2 e3 cA cF cG hop;have i1 : ((op : Int) == 54) = false := by rw [beq_eq_false_iff_ne]; omega
 clear hop;rcases hF with rfl | rfl | rfl | rfl
 ·have he := fun xs ys => xG 360 xs ys
  go_enter Tryz.func275, Tryz.ntmps275;go_wp2_with (first | ((first | ((with_reducible refine aB HO ?_); intro g hg; rw [← hg.out]; clear hg) | (with_reducible refine ah HO ?_) | (refine ay 73 HO ?_)); clear HO; (try clear kk); intro W' HO kk) | (refine bG 73 HO Tryz.underlying73 ?_) | (go_at_call 311; with_reducible refine bq HO (cA _ HO.below) ?_; clear HO; (try clear kk); intro w1 HO kk) | (go_at_call 313; with_reducible refine bq HO (cF _ HO.below) ?_; clear HO; (try clear kk); intro w1 HO kk) | (go_at_call 360; with_reducible refine bq HO (cG _ HO.below) ?_; clear HO; (try clear kk); intro w1 HO kk));go_ret;exact ⟨rfl, HO.below⟩
 ·have he := fun xs ys => xG 400 xs ys
  go_enter Tryz.func275, Tryz.ntmps275;go_wp2_with (first | ((first | ((with_reducible refine aB HO ?_); intro g hg; rw [← hg.out]; clear hg) | (with_reducible refine ah HO ?_) | (refine ay 73 HO ?_)); clear HO; (try clear kk); intro W' HO kk) | (refine bG 73 HO Tryz.underlying73 ?_) | (go_at_call 311; with_reducible refine bq HO (cA _ HO.below) ?_; clear HO; (try clear kk); intro w1 HO kk) | (go_at_call 313; with_reducible refine bq HO (cF _ HO.below) ?_; clear HO; (try clear kk); intro w1 HO kk) | (go_at_call 400; with_reducible refine bq HO (cG _ HO.below) ?_; clear HO; (try clear kk); intro w1 HO kk));go_ret;exact ⟨rfl, HO.below⟩
 ·have he := fun xs ys => xG 401 xs ys
  go_enter Tryz.func275, Tryz.ntmps275;go_wp2_with (first | ((first | ((with_reducible refine aB HO ?_); intro g hg; rw [← hg.out]; clear hg) | (with_reducible refine ah HO ?_) | (refine ay 73 HO ?_)); clear HO; (try clear kk); intro W' HO kk) | (refine bG 73 HO Tryz.underlying73 ?_) | (go_at_call 311; with_reducible refine bq HO (cA _ HO.below) ?_; clear HO; (try clear kk); intro w1 HO kk) | (go_at_call 313; with_reducible refine bq HO (cF _ HO.below) ?_; clear HO; (try clear kk); intro w1 HO kk) | (go_at_call 401; with_reducible refine bq HO (cG _ HO.below) ?_; clear HO; (try clear kk); intro w1 HO kk));go_ret;exact ⟨rfl, HO.below⟩
 ·have he := fun xs ys => xG 364 xs ys
  go_enter Tryz.func275, Tryz.ntmps275;go_wp2_with (first | ((first | ((with_reducible refine aB HO ?_); intro g hg; rw [← hg.out]; clear hg) | (with_reducible refine ah HO ?_) | (refine ay 73 HO ?_)); clear HO; (try clear kk); intro W' HO kk) | (refine bG 73 HO Tryz.underlying73 ?_) | (go_at_call 311; with_reducible refine bq HO (cA _ HO.below) ?_; clear HO; (try clear kk); intro w1 HO kk) | (go_at_call 313; with_reducible refine bq HO (cF _ HO.below) ?_; clear HO; (try clear kk); intro w1 HO kk) | (go_at_call 364; with_reducible refine bq HO (cG _ HO.below) ?_; clear HO; (try clear kk); intro w1 HO kk));go_ret;exact ⟨rfl, HO.below⟩
end
end Go.Proofs.YtlkolghiknbbfaaGreatDoor
