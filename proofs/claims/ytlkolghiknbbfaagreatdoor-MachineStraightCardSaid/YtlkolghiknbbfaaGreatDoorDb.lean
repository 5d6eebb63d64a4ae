/- Arithmetic: what an operation makes of one word of each of two rows; Lift. -/
import Derived.Test.YtlkolghiknbbfaaGreatDoorDa
set_option linter.unusedVariables false
set_option linter.unusedSimpArgs false
set_option maxRecDepth 100000
set_option maxHeartbeats 4000000
namespace Go.Proofs.YtlkolghiknbbfaaGreatDoor
open Go.RowKit
theorem Io (op : Nat) (h : eH op = true) (x cx : Nat) (a b : Int) (ha : 0 ≤ a) (ha' : a < 4294967296) (hb : 0 ≤ b) (hb' : b < 4294967296) (w : World) (h0 : w.cell? ⟨x, 0, none⟩ = some (.int .u32 a)) (h1 : w.cell? ⟨x, 1, none⟩ = some (.int .u32 b)) :
  Calls Tryz.prog 257 #[.int .u16 op, .slice (some ⟨x, 0, none⟩) 2 cx] w fun e w' => (∃ g, e = .returned (.slice (some ⟨g, 0, none⟩) 1 1) ∧ w.heap.size ≤ g ∧ w'.cell? ⟨g, 0, none⟩ = some (.int .u32 (qM op a b))) ∧ Bl w w' := by
 have HO := Own.nil w;have hcl : ∀ W W2 : World, (W.cell? ⟨x, 0, none⟩ = some (.int .u32 a) ∧ W.cell? ⟨x, 1, none⟩ = some (.int .u32 b)) → Bl W W2 → (W2.cell? ⟨x, 0, none⟩ = some (.int .u32 a) ∧ W2.cell? ⟨x, 1, none⟩ = some (.int .u32 b)) := fun _ _ h k => ⟨ae h.1 (block_lt_of_cell h.1) k, ae h.2 (block_lt_of_cell h.2) k⟩
 have hS : w.cell? ⟨x, 0, none⟩ = some (.int .u32 a) ∧ w.cell? ⟨x, 1, none⟩ = some (.int .u32 b) := ⟨h0, h1⟩;have cP := fun w => EE op h a b w
 have cB := fun w => tY op h a b ha ha' hb hb' w
 clear h0 h1 h ha ha' hb hb';generalize qM op a b = r at cB ⊢;go_enter Tryz.func257, Tryz.ntmps257;go_wp2_with fail;have hSw := hcl w w.drew hS eY;refine au (S := fun W => W.cell? ⟨x, 0, none⟩ = some (.int .u32 a) ∧ W.cell? ⟨x, 1, none⟩ = some (.int .u32 b)) (by kernel_rfl) ?_;refine ag hcl 0 ?_;refine ag hcl 1 ?_;refine ag hcl 2 ?_;refine ag hcl 3 ?_ (hv := fun w hw => by have q1 := hw.1; go_simp; first | done | with_reducible rfl);refine ag hcl 4 ?_;refine ag hcl 5 ?_;refine ag hcl 6 ?_ (hv := fun w hw => by have q1 := hw.2; go_simp; first | done | with_reducible rfl);refine tV hcl 7 287 (fun w hw => cP w) ?_;refine ag hcl 8 ?_;refine ag hcl 9 ?_;refine ag hcl 10 ?_;refine ag hcl 11 ?_;refine ag hcl 12 ?_;refine ag hcl 13 ?_;refine ag hcl 14 ?_;refine kS fun W2 hW2 => ?_
 replace HO := HO.drew.then hW2
 replace hS := hcl _ _ hSw hW2;clear hSw hW2;go_wp2_with fail;have hSw := hcl W2 W2.drew hS eY;refine au (S := fun W => W.cell? ⟨x, 0, none⟩ = some (.int .u32 a) ∧ W.cell? ⟨x, 1, none⟩ = some (.int .u32 b)) (by kernel_rfl) ?_;refine ag hcl 0 ?_;refine ag hcl 1 ?_;refine ag hcl 2 ?_;refine ag hcl 3 ?_ (hv := fun w hw => by have q1 := hw.1; go_simp; first | done | with_reducible rfl);refine ag hcl 4 ?_;refine ag hcl 5 ?_;refine ag hcl 6 ?_ (hv := fun w hw => by have q1 := hw.2; go_simp; first | done | with_reducible rfl);refine tV hcl 7 5 (fun w hw => cB w) ?_;refine ag hcl 8 ?_;refine ag hcl 9 ?_;refine ag hcl 10 ?_;refine ag hcl 11 ?_;refine kS fun W3 hW3 => ?_
 replace HO := HO.drew.then hW3
 clear hSw hW3 hS cP cB hcl;go_wp2_with fail;have HA := HO.alloc (.cells #[.int .u32 r] 22 (0, 0));go_ret;exact ⟨⟨_, rfl, HA.le 0 rfl, HA.cell 0 0 rfl rfl⟩, HA.below⟩
theorem ym (B R cR x y cx cy n : Nat) (hn : n = 1) (w : World) (hB : w.cell? ⟨B, 0, none⟩ = some (.slice (some ⟨R, 0, none⟩) 2 cR)) (h0 : w.cell? ⟨R, 0, none⟩ = some (.slice (some ⟨x, 0, none⟩) 1 cx)) :
  Calls Tryz.prog 255 #[.slice (some ⟨y, 0, none⟩) n cy, .pointer (some ⟨B, 0, none⟩)] w fun e w' => e = .returned (.bool false) ∧ w' = w := by
 subst hn;go_enter Tryz.func255, Tryz.ntmps255;go_wp2_with fail;go_ret;exact ⟨rfl, rfl⟩
theorem Cz (B R cR x y cx cy : Nat) (w : World) (hB : w.cell? ⟨B, 0, none⟩ = some (.slice (some ⟨R, 0, none⟩) 2 cR)) (h0 : w.cell? ⟨R, 0, none⟩ = some (.slice (some ⟨x, 0, none⟩) 1 cx)) (h1 : w.cell? ⟨R, 1, none⟩ = some (.slice (some ⟨y, 0, none⟩) 1 cy)) :
  Calls Tryz.prog 285 #[.slice (some ⟨R, 0, none⟩) 2 cR, .func (.func 255) #[] #[.pointer (some ⟨B, 0, none⟩)]] w fun e w' => e = .returned (.int .i64 (-1)) ∧ w' = w := by
 have c1 := ym B R cR x x cx cx 1 rfl w hB h0;have c2 := ym B R cR x y cx cy 1 rfl w hB h0;go_enter Tryz.func285, Tryz.ntmps285;go_wp2_with fail;refine wp_loop_rounds 3 ?_;rw [rounds_succ];go_wp2_with (go_at_call 255; (with_reducible refine c1.mono ?_); rintro e w1 ⟨rfl, rfl⟩);rw [rounds_succ];go_wp2_with (go_at_call 255; (with_reducible refine c2.mono ?_); rintro e w1 ⟨rfl, rfl⟩);rw [rounds_succ];go_wp2_with fail;go_ret;exact ⟨rfl, rfl⟩
theorem uN (B R cR x y cx cy : Nat) (w : World) (hB : w.cell? ⟨B, 0, none⟩ = some (.slice (some ⟨R, 0, none⟩) 2 cR)) (h0 : w.cell? ⟨R, 0, none⟩ = some (.slice (some ⟨x, 0, none⟩) 1 cx)) (h1 : w.cell? ⟨R, 1, none⟩ = some (.slice (some ⟨y, 0, none⟩) 1 cy)) :
  Calls Tryz.prog 254 #[.slice (some ⟨R, 0, none⟩) 2 cR, .func (.func 255) #[] #[.pointer (some ⟨B, 0, none⟩)]] w fun e w' => e = .returned (.bool false) ∧ w' = w := by
 have c1 := Cz B R cR x y cx cy w hB h0 h1;go_enter Tryz.func254, Tryz.ntmps254;go_wp2_with (go_at_call 285; (with_reducible refine c1.mono ?_); rintro e w1 ⟨rfl, rfl⟩);go_ret;exact ⟨rfl, rfl⟩
theorem ky : El 24 22 1 4 := El.of Tryz.underlying24 (z := .int .u32 0) (by kernel_rfl) rfl (by omega)
theorem Mo (T : TypeId) (w : World) (B o c : Nat) : (Builtin.append_ #[24, 24] T #[.slice none 0 0, .slice (some ⟨B, o, none⟩) 0 c]).run Tryz.prog w = .ok (.slice none 0 0) w := by kernel_rfl
theorem Eb {w : World} {ops : Array Oper} {rest : List Oper} {o : Oper} {a : Act} {Q : Exit → Act → World → Prop} (hgd : o.guard = none) (s x : Operand)
  (ho : o.op = .call { callee := .builtin .append, args := #[s, x], argTypes := #[24, 24] }) (hs : a.eval s = .slice none 0 0) (B j c : Nat) (hx : a.eval x = .slice (some ⟨B, j, none⟩) 0 c)
  (h : wpList Tryz.prog ops Q rest (a.put o.dst (.slice none 0 0)) w) : wpList Tryz.prog ops Q (o :: rest) a w := by
 refine wpList_plain hgd fun K hK => ?_
 have hrun := Mo o.type w B j c;unfold Oper.wp;simp [execOp, ho, resolve, invoke, builtin, hs, hx, hrun, Result.andThen];exact hK _ _ h
theorem Lb {X : Nat → Prop} {w W : World} {L : List As} {ops : Array Oper} {rest : List Oper} {o : Oper} {a : Act} {Q : Exit → Act → World → Prop} {t e : TypeId} {sz bytes base n : Nat} {v : Value} {xs : List Value} (h : Own X w L W) (E : El t e sz bytes) (i : Nat) (hi : L[i]? = some (bM base e sz v n xs)) (hgd : o.guard = none) (s x : Operand)
  (ho : o.op = .call { callee := .builtin .append, args := #[s, x], argTypes := #[t, t] }) (hs : a.eval s = v) (hx : a.eval x = .slice none 0 0)
  (k : wpList Tryz.prog ops Q rest (a.put o.dst v) W) : wpList Tryz.prog ops Q (o :: rest) a W := by
 obtain ⟨q, z, hq, hz0, hz1, hz2, hz3⟩ := E.info;exact wpList_append_own_none hgd s x t ho base e q sz E.slice hq v n xs hs (h.at i hi) hx k
def MK (g : Nat) (y : Int) (lo : Nat) (W : World) : Prop := lo ≤ g ∧ W.cell? ⟨g, 0, none⟩ = some (.int .u32 y)
theorem Ns {lo hi g : Nat} {y : Int} {W : World} (h : aO (MK g y) lo hi W) : W.cell? ⟨g, 0, none⟩ = some (.int .u32 y) ∧ lo ≤ g := by
 obtain ⟨U, u1, u2, u3⟩ := h.at_;have hb := block_lt_of_cell u2.2;exact ⟨(World.cell?_of_block (a := ⟨g, 0, none⟩) (u3 g u2.1 (by rw [← u1]; exact hb))).trans u2.2, u2.1⟩
theorem Ib (op : Nat) (h : eH op = true) (R cR x y cx cy : Nat) (a b : Int) (ha : 0 ≤ a) (ha' : a < 4294967296) (hb : 0 ≤ b) (hb' : b < 4294967296) (w : World)
  (h0 : w.cell? ⟨R, 0, none⟩ = some (.slice (some ⟨x, 0, none⟩) 1 cx)) (h1 : w.cell? ⟨R, 1, none⟩ = some (.slice (some ⟨y, 0, none⟩) 1 cy)) (hx : w.cell? ⟨x, 0, none⟩ = some (.int .u32 a)) (hy : w.cell? ⟨y, 0, none⟩ = some (.int .u32 b)) :
  Calls Tryz.prog 208 #[.int .u16 op, .slice (some ⟨R, 0, none⟩) 2 cR] w fun e w' => (∃ g c, e = .returned (.tuple #[.slice (some ⟨g, 0, none⟩) 1 c, .int .i64 0]) ∧ w.heap.size ≤ g ∧ w'.cell? ⟨g, 0, none⟩ = some (.int .u32 (qM op a b))) ∧ Bl w w' := by
 have HO := Own.nil w;have hm := dn h;simp only [List.mem_cons, List.not_mem_nil, or_false] at hm;have i154 : ((op : Int) == 154) = false := by rw [beq_eq_false_iff_ne]; omega
 have i155 : ((op : Int) == 155) = false := by rw [beq_eq_false_iff_ne]; omega
 clear hm;have cA := EL op h;have cR_ := fun x cx w h0 h1 => Io op h x cx a b ha ha' hb hb' w h0 h1
 clear h ha ha' hb hb';generalize qM op a b = r at cR_ ⊢;have z0 := block_lt_of_cell h0;have zx := block_lt_of_cell hx;have zy := block_lt_of_cell hy;go_enter Tryz.func208, Tryz.ntmps208;go_wp2_with (first | ((first | ((with_reducible refine aB HO ?_); intro g hg; rw [← hg.out]; clear hg) | (with_reducible refine ah HO ?_)); clear HO; (try clear kk); intro W' HO kk));obtain ⟨gB, rfl⟩ : ∃ q, q = g := ⟨_, rfl⟩;have zB := HO.lt 0 rfl;have e0 := HO.old _ 0 z0;have e1 := HO.old _ 1 z0;rw [h0] at e0;rw [h1] at e1;have hS : W'.cell? ⟨gB, 0, none⟩ = some (.slice (some ⟨R, 0, none⟩) 2 cR) ∧ W'.cell? ⟨R, 0, none⟩ = some (.slice (some ⟨x, 0, none⟩) 1 cx) ∧ W'.cell? ⟨R, 1, none⟩ = some (.slice (some ⟨y, 0, none⟩) 1 cy) := ⟨HO.cell 0 0 rfl rfl, e0, e1⟩;clear e0 e1 kk;have hcl : ∀ W W2 : World, (W.cell? ⟨gB, 0, none⟩ = some (.slice (some ⟨R, 0, none⟩) 2 cR) ∧ W.cell? ⟨R, 0, none⟩ = some (.slice (some ⟨x, 0, none⟩) 1 cx) ∧ W.cell? ⟨R, 1, none⟩ = some (.slice (some ⟨y, 0, none⟩) 1 cy)) → Bl W W2 → (W2.cell? ⟨gB, 0, none⟩ = some (.slice (some ⟨R, 0, none⟩) 2 cR) ∧ W2.cell? ⟨R, 0, none⟩ = some (.slice (some ⟨x, 0, none⟩) 1 cx) ∧ W2.cell? ⟨R, 1, none⟩ = some (.slice (some ⟨y, 0, none⟩) 1 cy)) := fun _ _ h k => ⟨ae h.1 (block_lt_of_cell h.1) k, ae h.2.1 (block_lt_of_cell h.2.1) k, ae h.2.2 (block_lt_of_cell h.2.2) k⟩
 have hSw := hcl W' W'.drew hS eY;have cE : ∀ W, (W.cell? ⟨gB, 0, none⟩ = some (.slice (some ⟨R, 0, none⟩) 2 cR) ∧ W.cell? ⟨R, 0, none⟩ = some (.slice (some ⟨x, 0, none⟩) 1 cx) ∧ W.cell? ⟨R, 1, none⟩ = some (.slice (some ⟨y, 0, none⟩) 1 cy)) → Qc 254 #[.slice (some ⟨R, 0, none⟩) 2 cR, .func (.func 255) #[] #[.pointer (some ⟨gB, 0, none⟩)]] W (.bool false) := fun W h => (uN gB R cR x y cx cy W h.1 h.2.1 h.2.2).mono fun e w' q => ⟨q.1, q.2 ▸ Below.refl _ _⟩
 refine au (S := fun W => W.cell? ⟨gB, 0, none⟩ = some (.slice (some ⟨R, 0, none⟩) 2 cR) ∧ W.cell? ⟨R, 0, none⟩ = some (.slice (some ⟨x, 0, none⟩) 1 cx) ∧ W.cell? ⟨R, 1, none⟩ = some (.slice (some ⟨y, 0, none⟩) 1 cy)) (by kernel_rfl) ?_;refine ag hcl 0 ?_ (hv := fun w hw => by have q1 := hw.1; go_simp; first | done | with_reducible rfl);refine ag hcl 1 ?_;refine ag hcl 2 ?_;refine ag hcl 3 ?_;refine ag hcl 4 ?_ (hv := fun w hw => by have q1 := hw.1; go_simp; first | done | with_reducible rfl);refine ag hcl 5 ?_;refine ag hcl 6 ?_;refine tV hcl 7 253 (fun w hw => cA w) ?_;refine ag hcl 8 ?_;refine ag hcl 9 ?_;refine ag hcl 10 ?_;refine ag hcl 11 ?_ (hv := fun w hw => by have q1 := hw.1; go_simp; first | done | with_reducible rfl);refine ag hcl 12 ?_;refine tV hcl 13 254 (fun w hw => cE w hw) ?_;refine ag hcl 14 ?_;refine kS fun W2 hW2 => ?_
 replace HO := HO.drew.then hW2
 clear hS hSw hW2 hcl cE cA;have hR : ∀ W, Bl w W → W.cell? ⟨R, 0, none⟩ = some (.slice (some ⟨x, 0, none⟩) 1 cx) ∧ W.cell? ⟨R, 1, none⟩ = some (.slice (some ⟨y, 0, none⟩) 1 cy) ∧ W.cell? ⟨x, 0, none⟩ = some (.int .u32 a) ∧ W.cell? ⟨y, 0, none⟩ = some (.int .u32 b) := fun W k => ⟨ae h0 z0 k, ae h1 z0 k, ae hx zx k, ae hy zy k⟩
 clear h0 h1 hx hy z0 zx zy zB;have hq := hR _ HO.below;(try simp only [yD] at HO); have kk := HO.kk;go_wp2_with fail;refine wp_loop_rounds 2 ?_;rw [rounds_succ];go_wp2_with fail;refine wp_loop_rounds 3 ?_;replace HO := HO.row w.heap.size 22 1;rw [rounds_succ];go_wp2_with (first | (((with_reducible refine aM HO ?_); clear HO; (try clear kk); intro g W' hg HO; rw [← hg.out]; clear hg; (try simp only [yT] at HO); have kk := HO.kk); have hq := hR _ HO.below) | ((with_reducible refine aA ?_); refine bg HO ky 1 0 rfl rfl rfl _ _ rfl rfl rfl rfl (by simp [Value.oneCell']) (by omega) (by omega) (Nat.le_refl _) ?_; clear HO hq; (try clear kk); intro g1 c1 W' HO; (try simp only [yT] at HO); have hq := hR _ HO.below; (try simp only [yD] at HO); have kk := HO.kk));rw [rounds_succ];go_wp2_with (first | (((with_reducible refine aM HO ?_); clear HO; (try clear kk); intro g W' hg HO; rw [← hg.out]; clear hg; (try simp only [yT] at HO); have kk := HO.kk); have hq := hR _ HO.below) | ((with_reducible refine aA ?_); refine bg HO ky 2 0 rfl rfl rfl _ _ rfl rfl rfl rfl (by simp [Value.oneCell']) (by omega) (by omega) (Nat.le_refl _) ?_; clear HO hq; (try clear kk); intro g2 c2 W' HO; (try simp only [yT] at HO); have hq := hR _ HO.below; (try simp only [yD] at HO); have kk := HO.kk));rw [rounds_succ];have cw := fun cx W h0 h1 => cR_ g2 cx W h0 h1
 clear cR_;go_wp2_with (first | (go_at_call 257; (with_reducible refine (cw _ _ (HO.rowcell 2 0 rfl rfl) (HO.rowcell 2 1 rfl rfl)).mono ?_); rintro e w1 ⟨⟨gr, rfl, hq1⟩, hn1⟩; replace HO := HO.deep (P := MK gr r) hn1 hq1; clear hn1 hq1; (try clear kk); have hg := (Ns (HO.at 0 rfl)).1; (try simp only [yD] at HO); have kk := HO.kk) | (((with_reducible refine aM HO ?_); clear HO; (try clear kk); intro g W' hg HO; rw [← hg.out]; clear hg; (try simp only [yT] at HO); have kk := HO.kk); have hg := (Ns (HO.at 1 rfl)).1) | ((with_reducible refine aA ?_); refine ru HO ky 0 rfl rfl _ _ rfl rfl rfl rfl (by simp [Value.oneCell']) (by omega) ?_; clear HO hg hq; (try clear kk); intro gf cf W' HO; (try simp only [yD] at HO); have kk := HO.kk) | ((with_reducible refine aA ?_); refine Eb rfl _ _ rfl rfl _ _ _ rfl ?_));rw [rounds_succ];go_wp2_with (first | ((with_reducible refine aA ?_); refine Lb HO ky 0 rfl rfl _ _ rfl rfl rfl ?_));go_ret2;exact ⟨⟨gf, cf, rfl, HO.rowle 0 rfl, HO.rowcell 0 0 rfl rfl⟩, HO.below⟩
theorem xN {X : Nat → Prop} {w W : World} {L : List As} {ops : Array Oper} {rest : List Oper} {o : Oper} {a : Act} {Q : Exit → Act → World → Prop} {t e : TypeId} {sz bytes base n : Nat} {v : Value} {xs : List Value} (h : Own X w L W) (E : El t e sz bytes) (i : Nat) (hi : L[i]? = some (bM base e sz v n xs)) (b q m c : Nat) (news : List Value) (hgd : o.guard = none) (s x : Operand)
  (ho : o.op = .call { callee := .builtin .append, args := #[s, x], argTypes := #[t, t] }) (hs : a.eval s = v) (hx : a.eval x = .slice (some ⟨b, q, none⟩) m c) (hl : news.length = m * sz) (hc : ∀ j u, news[j]? = some u → W.cell? ⟨b, q + j, none⟩ = some u) (h1 : ∀ u ∈ news, u.oneCell' = true) (hm : 0 < m) (hsmall : (n + m) * bytes ≤ 140737488355328) (h63 : n + m ≤ 140737488355328) (hb : base ≤ w.heap.size)
  (k : ∀ g c W', Own X w (L.set i (bM base e sz (.slice (some ⟨g, 0, none⟩) (n + m) c) (n + m) (xs ++ news))) W' → wpList Tryz.prog ops Q rest (a.put o.dst (.slice (some ⟨g, 0, none⟩) (n + m) c)) W') : wpList Tryz.prog ops Q (o :: rest) a W := by
 obtain ⟨y, z, hq, hz0, hz1, hz2, hz3⟩ := E.info;refine wpList_append_lies W hgd s x t ho base e y z sz bytes E.slice hq hz0 hz1 hz2 hz3 E.pos v n xs hs (h.at i hi) ⟨b, q, none⟩ m c news hx hl ?_ h1 hm (by unfold maxLen; omega) hsmall (Nat.le_trans hb h.size) _ rfl ?_
 ·intro j u hu
  rw [bH];exact hc j u hu
 ·intro g c w' q1 q2 q3 q4
  refine k g c w' (h.grown i hi q2 q1 (fun k hk => ?_))
  cases hk
  exact q3.imp id (fun e => by rw [e]; exact Nat.le_refl _)
theorem Own.empty {X : Nat → Prop} {w W : World} {L : List As} {g : Nat} {e : TypeId} (h : Own X w (aP g #[] e :: L) W) (sz : Nat) (hg : w.heap.size ≤ g) : Own X w (bM w.heap.size e sz (.slice (some ⟨g, 0, none⟩) 0 0) 0 [] :: L) W := by
 have := h.recast 0 (A' := bM w.heap.size e sz (.slice (some ⟨g, 0, none⟩) 0 0) 0 []) rfl (fun k hk => (Option.some.inj hk).symm) ⟨by simp, .inr ⟨g, 0, #[], rfl, hg, h.blk 0 rfl, Nat.le_refl _, Nat.zero_le _, by simp, by simp⟩⟩;exact this
theorem qJ : ∀ (l : List Ag), (l.flatMap dm).length = l.length * 3
 | [] => rfl
 | a :: l => by rw [List.flatMap_cons, List.length_append, qJ l]; simp [dm]; omega
theorem sM {w : World} {b o : Nat} : ∀ (l : List Ag) (h : ∀ i (h : i < l.length), cz w b (o + i * 3) l[i]) (j : Nat) (u : Value), (l.flatMap dm)[j]? = some u → w.cell? ⟨b, o + j, none⟩ = some u
 | [], _, j, u, h => by simp at h
 | a :: l, hc, j, u, h => by
  have h0 := hc 0 (by simp);simp only [Nat.zero_mul, Nat.add_zero, List.getElem_cons_zero] at h0;rw [List.flatMap_cons] at h;by_cases hj : j < 3
  ·rw [List.getElem?_append_left (by simpa [dm] using hj)] at h
   rcases j with _ | _ | _ | j
   ·simp only [dm, List.getElem?_cons_zero, Option.some.injEq] at h; subst h; exact h0.kind
   ·simp only [dm, List.getElem?_cons_succ, List.getElem?_cons_zero, Option.some.injEq] at h; subst h; exact h0.n
   ·simp only [dm, List.getElem?_cons_succ, List.getElem?_cons_zero, Option.some.injEq] at h; subst h; exact h0.s
   ·omega
  ·rw [List.getElem?_append_right (by simp [dm]; omega)] at h
   have e : (dm a).length = 3 := rfl;rw [e] at h
   have := sM (b := b) (o := o + 3) l (fun i hi => by
    have := hc (i + 1) (by simpa using hi);simp only [List.getElem_cons_succ] at this
    rwa [show o + (i + 1) * 3 = o + 3 + i * 3 by omega] at this) (j - 3) u h
   rwa [show o + 3 + (j - 3) = o + j by omega] at this
theorem Dk : El 71 64 3 24 := El.of Tryz.underlying71 (z := .agg #[.int .u8 0, .int .u32 0, .string ⟨#[]⟩]) (by kernel_rfl) rfl (by omega)
theorem DR (ab ao c : Nat) (l : List Ag) (h0 : 0 < l.length) (hn : l.length ≤ 1048576) (w : World) (h : Sl 3 cz w (some ⟨ab, ao, none⟩) l) :
  Calls Tryz.prog 112 #[.slice (some ⟨ab, ao, none⟩) l.length c] w fun e w' => ∃ g' c', e = .returned (.slice (some ⟨g', 0, none⟩) l.length c') ∧ Own aK w [bM w.heap.size 64 3 (.slice (some ⟨g', 0, none⟩) l.length c') l.length (l.flatMap dm)] w' := by
 have HO := Own.nil w;obtain ⟨b, o, e, hal, hcell⟩ := h.at_ h0;obtain ⟨rfl, rfl⟩ : ab = b ∧ ao = o := by
  injection e with e
  injection e with e1 e2
  exact ⟨e1, e2⟩
 clear e;have he : ∀ w, (binOp .eql 71 (.slice (some ⟨ab, ao, none⟩) l.length c) (.slice none 0 0)).run Tryz.prog w = .ok (.bool false) w := fun _ => by kernel_rfl
 have hc : ∀ W, Bl w W → _ := fun W hb => sM l (fun i hi => cz.lasts _ _ _ _ _ (hcell i hi) hal hb)
 have h1 : ∀ u ∈ l.flatMap dm, u.oneCell' = true := fun u hu => by
  obtain ⟨a, -, ha⟩ := List.mem_flatMap.1 hu;simp only [dm, List.mem_cons, List.not_mem_nil, or_false] at ha;rcases ha with rfl | rfl | rfl <;> simp [Value.oneCell']
 clear h hcell;go_enter Tryz.func112, Tryz.ntmps112;go_wp2_with (first | ((with_reducible refine aM HO ?_); clear HO; (try clear kk); intro g W' hg HO; rw [← hg.out]; clear hg; (try simp only [yT] at HO); have kk := HO.kk) | ((with_reducible refine aA ?_); replace HO := HO.empty 3 (HO.le 0 rfl); refine xN HO Dk 0 rfl ab ao l.length c (l.flatMap dm) rfl _ _ rfl rfl rfl (qJ l) (hc _ HO.below) h1 h0 (by omega) (by omega) (Nat.le_refl _) ?_; clear HO; (try clear kk); intro g1 c1 W' HO; (try simp only [yT] at HO)));go_ret;simp only [Nat.zero_add, List.nil_append] at HO ⊢;exact ⟨_, _, rfl, HO⟩
end Go.Proofs.YtlkolghiknbbfaaGreatDoor
