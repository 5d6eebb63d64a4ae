/- Machine: what an id says. -/
import Derived.Test.YtlkolghiknbbfaaGreatDoorMa
import Derived.Test.YtlkolghiknbbfaaGreatDoorBi
set_option linter.unusedVariables false
set_option linter.unusedSimpArgs false
set_option maxRecDepth 100000
set_option maxHeartbeats 4000000
namespace Go.Proofs.YtlkolghiknbbfaaGreatDoor
open Go.RowKit Go.MapKept
theorem Own.wordsOf {w W : World} {L : List As} (h : Own aK w L W) (i : Nat) {lo hi g k : Nat} (hi' : L[i]? = some (Go.Proofs.YtlkolghiknbbfaaGreatDoor.deep lo hi (bW g k))) (hk : 0 < k) : bW g k w.heap.size W := by
 obtain ⟨U, u1, u2, u3⟩ := (h.at i hi' : aO _ _ _ W).at_;have hb : g < hi := by
  rw [← u1];have h0 := u2.2 0;rw [Array.getElem?_eq_getElem (by rw [iZ]; exact hk)] at h0;exact block_lt_of_cell h0
 exact ⟨(h.low _ (List.mem_of_getElem? hi') g ⟨u2.1, hb⟩).1.resolve_right id, fun i => (World.cell?_of_block (a := ⟨g, i, none⟩) (u3 g u2.1 hb)).trans (u2.2 i)⟩
def vW (x : Nat) : Value := .int .i64 x
structure uP where
 ty : Nat
 at_ : Nat
 c : Nat
def iL (x : uP) : Value := .agg #[.int .u32 x.ty, .slice (some ⟨x.at_, 0, none⟩) 1 x.c, .bool false, .int .i64 0, .int .i64 0]
structure Sy (gM gC gm gfr cf gi ci n at_ gv P T lo mr : Nat) (tab : Nat → Option dU) (vs : Nat → Option (Nat × Nat × Nat)) (cs : Nat → Option (Nat × Nat)) (ids : List Nat) (rm : Nat → Option Nat) (W : World) : Prop where
 mac : Nz gM gC gm gfr cf gi ci n at_ gv W
 c2 : W.cell? ⟨gC, 2, none⟩ = some (.pointer (some ⟨P, 0, none⟩))
 c3 : W.cell? ⟨gC, 3, none⟩ = some (.pointer (some ⟨T, 0, none⟩))
 c10 : W.cell? ⟨gC, 10, none⟩ = some (.map (some mr))
 pq : jk lo P T tab vs cs ids W
 rm : Mp (.int .u32) bR (fun _ v x => v = vW x) W mr rm
section
variable {gM gC gm gfr cf gi ci n at_ gv P T lo mr : Nat} {tab : Nat → Option dU} {vs : Nat → Option (Nat × Nat × Nat)} {cs : Nat → Option (Nat × Nat)} {ids : List Nat} {rm : Nat → Option Nat} {w W : World}
theorem Sy.below (h : Sy gM gC gm gfr cf gi ci n at_ gv P T lo mr tab vs cs ids rm w) (hb : Bl w W) : Sy gM gC gm gfr cf gi ci n at_ gv P T lo mr tab vs cs ids rm W :=
 ⟨h.mac.below hb, ae h.c2 (block_lt_of_cell h.c2) hb, ae h.c3 (block_lt_of_cell h.c3) hb, ae h.c10 (block_lt_of_cell h.c10) hb, h.pq.below hb, h.rm.other (hb.block _ h.rm.lt) (fun _ _ e => e)⟩
theorem Dr : (Tryz.prog.info? 205).map (·.size) = some 5 := by kernel_rfl
theorem Mi (w : World) : (zeroValue 3).run Tryz.prog w = .ok (.int .i64 0) w := by kernel_rfl
theorem CV (h : Sy gM gC gm gfr cf gi ci n at_ gv P T lo mr tab vs cs ids rm w) (id ty k : Nat) (hf : cs id = some (ty, k)) (h0 : 0 < k) (hk : k ≤ 4096) :
  Calls Tryz.prog 159 #[.pointer (some ⟨gM, 0, none⟩), .int .u32 id] w fun e w' => (∃ g, e = .returned (.agg #[.int .u32 ty, .slice (some ⟨g, 0, none⟩) k k, .bool false, .int .i64 0, .int .i64 0]) ∧ bW g k w.heap.size w') ∧ Bl w w' := by
 have HO := Own.nil w;have cV : ∀ W, Bl w W → _ := fun W hb => yK (h.below hb).pq id ty k hf hk
 have e0 := h.mac.m0;have e1 := h.c2;have z0 := block_lt_of_cell e0;have z1 := block_lt_of_cell e1;clear h hf;go_enter Tryz.func159, Tryz.ntmps159;go_wp2_with (first | ((first | ((with_reducible refine aB HO ?_); intro g hg; rw [← hg.out]; clear hg) | (with_reducible refine ah HO ?_)); clear HO; (try clear kk); intro W' HO kk) | (go_at_call 118; (with_reducible refine (cV _ HO.below).mono ?_); rintro e w1 ⟨⟨g2, rfl, hq⟩, hn1⟩; replace HO := HO.deep (P := bW g2 k) hn1 hq; clear hn1 hq; (try clear kk); (try simp only [yD] at HO); have kk := HO.kk) | ((refine ay 205 HO ?_); clear HO; (try clear kk); intro W' HO kk));refine bodyPost_ret_by (bF rfl _ _ _ 205 #[.int .u32 ty, .slice (some ⟨g2, 0, none⟩) k k, .bool false, .int .i64 0, .int .i64 0] _ _ rfl (HO.blk 1 rfl) Tryz.underlying205 rfl Dr) rfl ?_;exact ⟨⟨g2, rfl, HO.wordsOf 0 rfl h0⟩, HO.below⟩
theorem qi (h : Sy gM gC gm gfr cf gi ci n at_ gv P T lo mr tab vs cs ids rm w) (id r c ty m : Nat) (hf : cs id = none) (hr : rm id = some r) (hv : vs id = some (c, ty, m)) (hm : m ≤ 4096) :
  Qc 159 #[.pointer (some ⟨gM, 0, none⟩), .int .u32 id] w (.agg #[.int .u32 ty, .slice none 0 0, .bool true, .int .i64 r, .int .i64 0]) := by
 have HO := Own.nil w;have cV : ∀ W, Bl w W → _ := fun W hb => ql (h.below hb).pq id hf
 have cB : ∀ W, Bl w W → Calls Tryz.prog 78 #[.pointer (some ⟨P, 0, none⟩), .int .u32 id] W fun e w' => (∃ g, e = .returned (.tuple #[.int .u32 c, .int .u32 ty, .slice (some ⟨g, 0, none⟩) m m, .bool true])) ∧ Bl W w' := fun W hb => by
  obtain ⟨mv, fv, Dm, -, -, -, -, h5, -, h7, h8, h9, h10⟩ := (h.below hb).pq.pl.at_;have hq := h8 id;rw [hv] at hq
  cases hx : fv id with
  | none => rw [hx] at hq; cases hq
  | some x =>
   rw [hx] at hq;injection hq with hq
   injection hq with q1 hq
   injection hq with q2 q3
   subst q1 q2 q3;obtain ⟨d1, d2⟩ := h9 id x hx;refine (jZ P mv id fv x W h5 h7 hx ⟨Nat.zero_le _, d2⟩ hm (h10 _ d1)).mono ?_;rintro e w' ⟨⟨g, e1, -⟩, e2⟩;exact ⟨⟨g, e1⟩, e2⟩
 have hl : ∀ W, Bl w W → (Instr.lookup 126 (.map (some mr)) (.int .u32 id) true).run Tryz.prog W = .ok (.tuple #[.int .i64 r, .bool true]) W := fun W hb => by
  obtain ⟨v', hv', hq⟩ := (h.below hb).rm.hit dK Tryz.underlying126 Tryz.underlying22 hr;have := hq true;subst hv';exact this
 have e0 := h.mac.m0;have e1 := h.c2;have e2 := h.c10;have z0 := block_lt_of_cell e0;have z1 := block_lt_of_cell e1;clear h hf hr hv;go_enter Tryz.func159, Tryz.ntmps159;go_wp2_with (first | ((first | ((with_reducible refine aB HO ?_); intro g hg; rw [← hg.out]; clear hg) | (with_reducible refine ah HO ?_)); clear HO; (try clear kk); intro W' HO kk) | (go_at_call 118; (with_reducible refine (cV _ HO.below).mono ?_); rintro e w1 ⟨⟨g2, rfl⟩, hn1⟩; replace HO := HO.then hn1; clear hn1; (try clear kk); have hl2 := hl _ HO.below; (try simp only [yD] at HO); have kk := HO.kk) | (go_at_call 78; (with_reducible refine (cB _ HO.below).mono ?_); rintro e w1 ⟨⟨g3, rfl⟩, hn1⟩; replace HO := HO.then hn1; clear hn1; (try clear kk); have kk := HO.kk) | ((refine ay 205 HO ?_); clear HO; (try clear kk); intro W' HO kk));refine bodyPost_ret_by (bF rfl _ _ _ 205 #[.int .u32 ty, .slice none 0 0, .bool true, .int .i64 r, .int .i64 0] _ _ rfl (HO.blk 0 rfl) Tryz.underlying205 rfl Dr) rfl ?_;exact ⟨rfl, HO.below⟩
theorem KC (h : Sy gM gC gm gfr cf gi ci n at_ gv P T lo mr tab vs cs ids rm w) (id : Nat) (f : Nat → Option uP) (x : uP) (hV : Mp (.int .u32) bR (fun _ v x => v = iL x) w gv f) (hx : f id = some x) (hf : cs id = none) (hr : rm id = none) :
  Qc 159 #[.pointer (some ⟨gM, 0, none⟩), .int .u32 id] w (iL x) := by
 have HO := Own.nil w;have cV : ∀ W, Bl w W → _ := fun W hb => ql (h.below hb).pq id hf
 have cT : ∀ W, Bl w W → _ := fun W hb => iD (h.below hb).mac.m2
 have hl : ∀ W, Bl w W → (Instr.lookup 126 (.map (some mr)) (.int .u32 id) true).run Tryz.prog W = .ok (.tuple #[.int .i64 0, .bool false]) W := fun W hb => (h.below hb).rm.miss dK Tryz.underlying126 Tryz.underlying22 hr (Mi W) true
 have hl2 : ∀ W, Bl w W → (Instr.lookup 199 (.map (some gv)) (.int .u32 id) false).run Tryz.prog W = .ok (iL x) W := fun W hb => by
  obtain ⟨v', hv', hq⟩ := (hV.other (hb.block _ hV.lt) (fun _ _ e => e)).hit dK Tryz.underlying199 Tryz.underlying22 hx;have := hq false;subst hv';exact this
 have e0 := h.mac.m0;have e1 := h.c2;have e2 := h.c10;have e3 := h.mac.f3;have z0 := block_lt_of_cell e0;have z1 := block_lt_of_cell e1;have z3 := block_lt_of_cell e3;clear h hf hr hV hx;obtain ⟨ty, xa, c⟩ := x;unfold iL at hl2 ⊢;simp only at hl2 ⊢;go_enter Tryz.func159, Tryz.ntmps159;go_wp2_with (first | ((first | ((with_reducible refine aB HO ?_); intro g hg; rw [← hg.out]; clear hg) | (with_reducible refine ah HO ?_)); clear HO; (try clear kk); intro W' HO kk) | (go_at_call 118; (with_reducible refine (cV _ HO.below).mono ?_); rintro e w1 ⟨⟨g2, rfl⟩, hn1⟩; replace HO := HO.then hn1; clear hn1; (try clear kk); have hl3 := hl _ HO.below; (try simp only [yD] at HO); have kk := HO.kk) | (go_at_call 116; (with_reducible refine (cT _ HO.below).mono ?_); rintro e w1 ⟨rfl, hn1⟩; replace HO := HO.then hn1; clear hn1; (try clear kk); have hl4 := hl2 _ HO.below; (try simp only [yD] at HO); have kk := HO.kk) | ((refine ay 205 HO ?_); clear HO; (try clear kk); intro W' HO kk));refine bodyPost_ret_by (bF rfl _ _ _ 205 #[.int .u32 ty, .slice (some ⟨xa, 0, none⟩) 1 c, .bool false, .int .i64 0, .int .i64 0] _ _ rfl (HO.blk 0 rfl) Tryz.underlying205 rfl Dr) rfl ?_;exact ⟨rfl, HO.below⟩
theorem Nf (ty : Int) (av : Option Addr) (k c : Nat) (p : Bool) (r a : Int) (W : World) : (Instr.field 205 (.agg #[.int .u32 ty, .slice av k c, .bool p, .int .i64 r, .int .i64 a]) 1).run Tryz.prog W = .ok (.slice av k c) W := by kernel_rfl
theorem Cw (id : Nat) (ty : Int) (av : Option Addr) (k c : Nat) (p : Bool) (r a : Int) (Q : World → Prop) (cS : Calls Tryz.prog 159 #[.pointer (some ⟨gM, 0, none⟩), .int .u32 id] w fun e w' => e = .returned (.agg #[.int .u32 ty, .slice av k c, .bool p, .int .i64 r, .int .i64 a]) ∧ Q w') :
  Calls Tryz.prog 164 #[.pointer (some ⟨gM, 0, none⟩), .int .u32 id] w fun e w' => e = .returned (.slice av k c) ∧ Q w' := by
 have hl := Nf ty av k c p r a;go_enter Tryz.func164, Tryz.ntmps164;go_wp2_with (go_at_call 159; (with_reducible refine cS.mono ?_); rintro e w1 ⟨rfl, hn1⟩);go_ret;exact ⟨rfl, hn1⟩
end
section
variable {gM gC gm gfr cf gi ci n at_ gv P T lo mr : Nat} {tab : Nat → Option dU} {vs : Nat → Option (Nat × Nat × Nat)} {cs : Nat → Option (Nat × Nat)} {ids : List Nat} {rm : Nat → Option Nat} {w W : World}
theorem Cg (h : Sy gM gC gm gfr cf gi ci n at_ gv P T lo mr tab vs cs ids rm w) {gr g r k m c cr : Nat} (hR : Room gm gr g r k m c cr w) (ys : List Nat) (h0 : 0 < ys.length) (hm : ys.length ≤ m) (hy : ∀ j u, (wV ys)[j]? = some u → w.cell? ⟨g, j, none⟩ = some u) (op ty res id ab ao cm pty cl sz : Nat) (hx : w.cell? ⟨ab, ao + 1, none⟩ = some (.int .u32 id)) (hf : cs id = none) (hr : rm id = some r) (hv : vs id = some (cl, pty, sz)) (hz : sz ≤ 4096) (hsz : (aD tab pty).size = ys.length) :
  Calls Tryz.prog 246 #[.pointer (some ⟨gM, 0, none⟩), .agg #[.int .u16 op, .int .u32 ty, .int .u32 res, .slice (some ⟨ab, ao, none⟩) 1 cm]] w fun e w' => ∃ g' c', e = .returned (.slice (some ⟨g', 0, none⟩) ys.length c') ∧ Own aK w [bM 0 22 1 (.slice (some ⟨g', 0, none⟩) ys.length c') ys.length (wV ys)] w' := by
 have HO := Own.nil w;have cS : ∀ W, Bl w W → _ := fun W hb => qi (h.below hb) id r cl pty sz hf hr hv hz
 have cZ : ∀ W, Bl w W → Qc 105 #[.pointer (some ⟨T, 0, none⟩), .int .u32 pty] W (.int .i64 ys.length) := fun W hb => by
  have := (h.below hb).pq.pl.tb.tsize pty;rw [hsz] at this;exact this
 have cL : ∀ W, Bl w W → _ := fun W hb => qd (hR.keep hb) ys h0 hm (fun j u hu => ae (hy j u hu) (block_lt_of_cell (hy j u hu)) hb)
 have e0 := h.mac.m0;have e1 := h.mac.m1;have e2 := h.c3;have z0 := block_lt_of_cell e0;have z2 := block_lt_of_cell e2;have zx := block_lt_of_cell hx;clear h hR hm hy hf hr hv hsz;generalize ys.length = q at cZ cL h0 ⊢;go_enter Tryz.func246, Tryz.ntmps246;go_wp2_with (first | ((first | ((with_reducible refine aB HO ?_); intro g hg; rw [← hg.out]; clear hg) | (with_reducible refine ah HO ?_)); clear HO; (try clear kk); intro W' HO kk) | (go_at_call 159; with_reducible refine bq HO (cS _ HO.below) ?_; clear HO; (try clear kk); intro w1 HO kk) | ((refine ay 205 HO ?_); clear HO; (try clear kk); intro W' HO kk));obtain ⟨gp, rfl⟩ : ∃ q, q = g := ⟨_, rfl⟩;(try clear kk);replace HO := HO.drew;have hcl : ∀ W W2 : World, (Bl w W ∧ W.cell? ⟨gp, 0, none⟩ = some (.int .u32 pty) ∧ W.cell? ⟨gp, 3, none⟩ = some (.int .i64 r) ∧ W.cell? ⟨gp, 4, none⟩ = some (.int .i64 0)) → Bl W W2 → (Bl w W2 ∧ W2.cell? ⟨gp, 0, none⟩ = some (.int .u32 pty) ∧ W2.cell? ⟨gp, 3, none⟩ = some (.int .i64 r) ∧ W2.cell? ⟨gp, 4, none⟩ = some (.int .i64 0)) := fun _ _ h k => ⟨az h.1 k, ae h.2.1 (block_lt_of_cell h.2.1) k, ae h.2.2.1 (block_lt_of_cell h.2.2.1) k, ae h.2.2.2 (block_lt_of_cell h.2.2.2) k⟩
 have hSw := And.intro HO.below (And.intro (HO.cell 0 0 rfl rfl) (And.intro (HO.cell 0 3 rfl rfl) (HO.cell 0 4 rfl rfl)));refine au (S := fun W => Bl w W ∧ W.cell? ⟨gp, 0, none⟩ = some (.int .u32 pty) ∧ W.cell? ⟨gp, 3, none⟩ = some (.int .i64 r) ∧ W.cell? ⟨gp, 4, none⟩ = some (.int .i64 0)) (by kernel_rfl) ?_;refine ag hcl 0 ?_;refine ag hcl 1 ?_;refine ag hcl 2 ?_;refine ag hcl 3 ?_ (hv := fun w hw => by have q1 := ae e1 z0 hw.1; go_simp; first | done | with_reducible rfl);refine ag hcl 4 ?_;refine ag hcl 5 ?_ (hv := fun w hw => by have q1 := hw.2.2.1; go_simp; first | done | with_reducible rfl);refine ag hcl 6 ?_;refine ag hcl 7 ?_ (hv := fun w hw => by have q1 := hw.2.2.2; go_simp; first | done | with_reducible rfl);refine ag hcl 8 ?_;refine ag hcl 9 ?_;refine ag hcl 10 ?_;refine ag hcl 11 ?_ (hv := fun w hw => by have q1 := ae e0 z0 hw.1; go_simp; first | done | with_reducible rfl);refine ag hcl 12 ?_;refine ag hcl 13 ?_;refine ag hcl 14 ?_ (hv := fun w hw => by have q1 := ae e2 z2 hw.1; go_simp; first | done | with_reducible rfl);refine ag hcl 15 ?_;refine ag hcl 16 ?_ (hv := fun w hw => by have q1 := hw.2.1; go_simp; first | done | with_reducible rfl);refine tV hcl 17 105 (fun w hw => cZ w hw.1) ?_;refine dC [18] fun W2 hW2 => ?_
 replace HO := HO.then hW2
 clear hW2 hSw;refine dO (fun K hK => ?_);go_simp;go_at_call 86;refine (cL _ HO.below).mono ?_;rintro e W6 ⟨g2, c2, rfl, h2⟩;replace HO := HO.app h2;clear h2;simp only [List.cons_append, List.nil_append] at HO;have hSw := And.intro HO.below (And.intro (HO.cell 1 0 rfl rfl) (And.intro (HO.cell 1 3 rfl rfl) (HO.cell 1 4 rfl rfl)));refine bX hK hSw ?_;clear hK K;refine ag hcl 19 ?_;refine ag hcl 20 ?_;refine ag hcl 21 ?_;refine ag hcl 22 ?_;refine ag hcl 23 ?_;refine kS fun W8 hW8 => ?_
 replace HO := HO.then hW8
 clear hW8 hSw hcl cS cZ cL;go_wp2_with fail;go_ret;exact ⟨g2, c2, rfl, HO.sub (.cons_cons _ (.cons _ (.cons _ .slnil)))⟩
end
theorem IQ (w : World) : (zeroValue 302).run Tryz.prog w = .ok .nilFunc w := by kernel_rfl
theorem Mx (w : World) : (binOp BinOp.neq 302 .nilFunc .nilFunc).run Tryz.prog w = .ok (.bool false) w := by kernel_rfl
theorem De {M op : Nat} (h : eH op = true) : Iz M (op : Int) = none := by
 have hm := dn h;simp only [List.mem_cons, List.not_mem_nil, or_false] at hm;rcases hm with rfl | rfl | rfl | rfl | rfl | rfl | rfl | rfl | rfl | rfl | rfl | rfl | rfl | rfl <;> rfl
theorem EP (M op ty res ab ao cm x y g0 g1 c0 c1 : Nat) (a b : Int) (h2 : eH op = true) (ha : 0 ≤ a ∧ a < 4294967296) (hb : 0 ≤ b ∧ b < 4294967296) (w : World) (two : Two ab ao x y w)
  (cX : ∀ W, Bl w W → Qc 164 #[.pointer (some ⟨M, 0, none⟩), .int .u32 x] W (.slice (some ⟨g0, 0, none⟩) 1 c0))
  (cY : ∀ W, Bl w W → Qc 164 #[.pointer (some ⟨M, 0, none⟩), .int .u32 y] W (.slice (some ⟨g1, 0, none⟩) 1 c1))
  (h0 : w.cell? ⟨g0, 0, none⟩ = some (.int .u32 a)) (h1 : w.cell? ⟨g1, 0, none⟩ = some (.int .u32 b)) :
  Calls Tryz.prog 166 #[.pointer (some ⟨M, 0, none⟩), .agg #[.int .u16 op, .int .u32 ty, .int .u32 res, .slice (some ⟨ab, ao, none⟩) 2 cm]] w fun e w' => (∃ g c, e = .returned (.slice (some ⟨g, 0, none⟩) 1 c) ∧ MK g (qM op a b) w.heap.size w') ∧ Bl w w' := by
 have HO := Own.nil w;have cL : ∀ (B cB : Nat) W, Bl w W → W.cell? ⟨B, 0, none⟩ = some (.slice (some ⟨g0, 0, none⟩) 1 c0) → W.cell? ⟨B, 1, none⟩ = some (.slice (some ⟨g1, 0, none⟩) 1 c1) → _ := fun B cB W hW e0 e1 => Ib op h2 B cB g0 g1 c0 c1 a b ha.1 ha.2 hb.1 hb.2 W e0 e1 (ae h0 (block_lt_of_cell h0) hW) (ae h1 (block_lt_of_cell h1) hW)
 have HT := hid two;have hno := De (M := M) h2;clear h0 h1 two;go_enter Tryz.func166, Tryz.ntmps166;go_wp2_with (first | (((with_reducible refine aB HO ?_); intro g hg; rw [← hg.out]; clear hg); clear HO; (try clear kk); intro W' HO kk));obtain ⟨gI, rfl⟩ : ∃ q, q = g := ⟨_, rfl⟩;(try clear kk);replace HO := HO.drew;have hcl : ∀ W W2 : World, (W.cell? ⟨gI, 0, none⟩ = some (.int .u16 op)) → Bl W W2 → W2.cell? ⟨gI, 0, none⟩ = some (.int .u16 op) := fun _ _ h k => ae h (block_lt_of_cell h) k
 have hSw := HO.cell 0 0 rfl rfl;refine au (S := fun W => W.cell? ⟨gI, 0, none⟩ = some (.int .u16 op)) (by kernel_rfl) ?_;refine ag hcl 0 ?_;refine ag hcl 2 ?_;refine ag hcl 3 ?_ (hv := fun w hw => by have q1 := hw; go_simp; first | done | with_reducible rfl);refine dC [1] fun W2 hW2 => ?_
 replace HO := HO.then hW2
 clear hW2 hSw;refine dO (fun K hK => ?_);go_simp;go_at_call 206;refine (qw M _).mono ?_;rintro e W6 ⟨⟨mb, rfl, hMp⟩, hn6⟩;replace HO := HO.then hn6
 clear hn6;refine bX hK (HO.cell 0 0 rfl rfl) ?_;clear hK K;refine dC [4] fun W5 hW5 => ?_
 replace HO := HO.then hW5
 have hM5 := hMp.other (hW5.block mb hMp.lt) (fun _ _ e => e);have hl : (Instr.lookup 303 (.map (some mb)) (.int .u16 op) false).run Tryz.prog W5 = .ok .nilFunc W5 := hM5.miss BB Tryz.underlying303 Tryz.underlying26 hno (IQ W5) false;clear hW5 hMp hM5;refine dO (fun K hK => ?_);go_simp;have hSw := HO.cell 0 0 rfl rfl;refine bX hK hSw ?_;clear hK K hl;refine ag hcl 5 ?_;refine kS fun W8 hW8 => ?_
 replace HO := HO.then hW8
 clear hW8 hSw hcl;have he := Mx;(try simp only [yD] at HO); have kk := HO.kk;go_wp2_with fail;replace HO := HO.row 0 24 1;(try clear kk);refine wp_loop_rounds 3 ?_;have q := HT.out.below HO.below;obtain ⟨t0, t1, t2, t3, t4, t5⟩ := q;have zt := block_lt_of_cell t0;(try simp only [yD] at HO); have kk := HO.kk;rw [rounds_succ];go_wp2_with (first | ((first | ((with_reducible refine aB HO ?_); intro g hg; rw [← hg.out]; clear hg) | (with_reducible refine ah HO ?_) | (refine ay 64 HO ?_)); clear HO; (try clear kk); intro W' HO kk) | (go_at_call 164; with_reducible refine bq HO (cX _ HO.below) ?_; clear HO; (try clear kk); intro w1 HO kk) | ((with_reducible refine aA ?_); refine bg HO je 2 0 rfl rfl rfl _ _ rfl rfl rfl rfl (by simp [Value.oneCell']) (by omega) (by omega) (Nat.zero_le _) ?_; clear HO; (try clear kk); intro r0 d0 W' HO; (try simp only [yT] at HO); (try simp only [yD] at HO); have kk := HO.kk));clear t0 t1 t2 t3 t4 t5 zt;have q := HT.out.below HO.below;obtain ⟨t0, t1, t2, t3, t4, t5⟩ := q;have zt := block_lt_of_cell t0;rw [rounds_succ];go_wp2_with (first | ((first | ((with_reducible refine aB HO ?_); intro g hg; rw [← hg.out]; clear hg) | (with_reducible refine ah HO ?_) | (refine ay 64 HO ?_)); clear HO; (try clear kk); intro W' HO kk) | (go_at_call 164; with_reducible refine bq HO (cY _ HO.below) ?_; clear HO; (try clear kk); intro w1 HO kk) | ((with_reducible refine aA ?_); refine bg HO je 4 0 rfl rfl rfl _ _ rfl rfl rfl rfl (by simp [Value.oneCell']) (by omega) (by omega) (Nat.zero_le _) ?_; clear HO; (try clear kk); intro r1 d1 W' HO; (try simp only [yT] at HO); (try simp only [yD] at HO); have kk := HO.kk));clear t0 t1 t2 t3 t4 t5 zt;rw [rounds_succ];go_wp2_with fail;refine wp_loop_rounds 3 ?_;have x0 := HO.rowcell 4 0 rfl rfl;have x1 := HO.rowcell 4 1 rfl rfl;have xz := block_lt_of_cell x0;(try simp only [yD] at HO); have kk := HO.kk;rw [rounds_succ];go_wp2_with fail;go_region;replace HO := HO.drew;clear x0 x1 xz;(try clear kk);go_wp2_with fail;have x0 := HO.rowcell 4 0 rfl rfl;have x1 := HO.rowcell 4 1 rfl rfl;have xz := block_lt_of_cell x0;(try simp only [yD] at HO); have kk := HO.kk;rw [rounds_succ];go_wp2_with fail;go_region;replace HO := HO.drew;clear x0 x1 xz;(try clear kk);go_wp2_with fail;rw [rounds_succ];have cc := fun W hb e0 e1 => cL r1 d1 W hb e0 e1
 clear cL HT cX cY;(try simp only [yD] at HO); have kk := HO.kk;go_wp2_with (first | (go_at_call 208; (with_reducible refine (cc _ HO.below (HO.rowcell 4 0 rfl rfl) (HO.rowcell 4 1 rfl rfl)).mono ?_); rintro e w1 ⟨⟨gr, cr, rfl, hx1, hx2⟩, hn1⟩; have HX := hid (And.intro hx1 hx2); have HB := hid HO.below; replace HO := HO.then hn1; clear hn1 hx1 hx2; (try clear kk)));go_ret;exact ⟨⟨gr, cr, rfl, Nat.le_trans HB.out.size HX.out.1, HX.out.2⟩, HO.below⟩
theorem Jr (g k c : Nat) (hk : k ≤ c) (hc : c ≤ 9223372036854775807) (w : World) : Calls Tryz.prog 277 #[.slice (some ⟨g, 0, none⟩) k c] w fun e w' => e = .returned (.slice (some ⟨g, 0, none⟩) k k) ∧ w' = w := by
 have i1 : (k : Int) ≤ c := by omega
 have i2 : (c : Int) ≤ 9223372036854775807 := by omega
 clear hk hc;go_enter Tryz.func277, Tryz.ntmps277;go_wp2_with fail;go_ret;exact ⟨rfl, rfl⟩
theorem FK (gm gr k cr sz : Nat) (hk : k ≤ cr) (hc : cr ≤ 9223372036854775807) (w0 : World) (L : List As) (w : World) (H : Own aK w0 (aP gm #[.slice (some ⟨gr, 0, none⟩) k cr, .int .i64 sz] 197 :: L) w) :
  Calls Tryz.prog 244 #[.pointer (some ⟨gm, 0, none⟩), .int .i64 k] w fun e w' => e = .returned (.int .i64 0) ∧ Own aK w0 (aP gm #[.slice (some ⟨gr, 0, none⟩) k k, .int .i64 sz] 197 :: L) w' := by
 have HO := H;have cC := fun W => Jr gr k cr (by omega) hc W
 have i1 : (k : Int) ≤ cr := by omega
 have i2 : (cr : Int) ≤ 9223372036854775807 := by omega
 have i3 : ¬ ((k : Int) < 0) := by omega
 rcases Nat.lt_or_eq_of_le hk with h4 | h4
 ·have i4 : (k : Int) < cr := by omega
  clear H hk hc h4;go_enter Tryz.func244, Tryz.ntmps244;(try simp only [yD] at HO); have kk := HO.kk;go_wp2_with (first | ((with_reducible refine ah HO ?_); clear HO; (try clear kk); intro W' HO kk));refine wp_loop_rounds 1 ?_;rw [rounds_succ];go_wp2_with (first | ((with_reducible refine ah HO ?_); clear HO; (try clear kk); intro W' HO kk) | (go_at_call 277; (with_reducible refine (cC _).mono ?_); rintro e w1 ⟨rfl, rfl⟩));go_ret;exact ⟨rfl, HO.set 0 0 (.slice (some ⟨gr, 0, none⟩) k k) rfl⟩
 ·subst h4
  have i4 : ¬ ((k : Int) < k) := by omega
  clear H hk hc;go_enter Tryz.func244, Tryz.ntmps244;(try simp only [yD] at HO); have kk := HO.kk;go_wp2_with (first | ((with_reducible refine ah HO ?_); clear HO; (try clear kk); intro W' HO kk));refine wp_loop_rounds 1 ?_;rw [rounds_succ];go_wp2_with (first | ((with_reducible refine ah HO ?_); clear HO; (try clear kk); intro W' HO kk) | (go_at_call 277; (with_reducible refine (cC _).mono ?_); rintro e w1 ⟨rfl, rfl⟩));go_ret;exact ⟨rfl, HO.set 0 0 (.slice (some ⟨gr, 0, none⟩) k k) rfl⟩
theorem MB {F : World → Prop} {w : World} {L : List As} {g : Prop} (h2 : (∀ W, Own aK w L W → F W) → g) (h1 : ∀ W, Own aK w L W → F W) : g := h2 h1
def kQ (gM gC gm gfr cf gr cr k sz : Nat) (fr st oc : Value) (fn bk : Int) (at_ gv rs : Nat) (L : List As) : List As :=
 aP gM #[.pointer (some ⟨gC, 0, none⟩), .pointer (some ⟨gm, 0, none⟩), fr, st, oc] 144 :: bM 0 201 5 (.slice (some ⟨gfr, 0, none⟩) 1 cf) 1 [.int .i64 fn, .int .i64 bk, .int .i64 at_, .map (some gv), .int .i64 rs] :: aP gm #[.slice (some ⟨gr, 0, none⟩) k cr, .int .i64 sz] 197 :: L
theorem GR (gM gC gm gfr cf gr cr k sz at_ gv : Nat) (st : Value) (fn bk : Int) (op ty res ic : Nat) (ia : Option Addr) (hk : k ≤ cr) (hc : cr ≤ 9223372036854775807) (hcf : 1 ≤ cf) (w0 : World) (L : List As) (w : World) (H : Own aK w0 (kQ gM gC gm gfr cf gr cr k sz (.slice (some ⟨gfr, 0, none⟩) 1 cf) st (.int .u8 0) fn bk at_ gv k L) w) :
  Calls Tryz.prog 203 #[.pointer (some ⟨gM, 0, none⟩), .agg #[.int .u16 op, .int .u32 ty, .int .u32 res, .slice ia 0 ic]] w fun e w' => e = .returned (.tuple #[]) ∧ Own aK w0 (kQ gM gC gm gfr cf gr k k sz (.slice none 0 0) st (.int .u8 1) fn bk at_ gv k L) w' := by
 have HO := H;clear H;unfold kQ at HO;have cD := fun (w : World) (L : List As) H => FK gm gr k cr sz hk hc w0 L w H
 have cE := fun (w : World) (a0 a1 a2 a3 : Value) (L : List As) H => Ff (gM := gM) 1 0 a0 a1 a2 a3 w0 L w H
 clear hk hc;go_enter Tryz.func203, Tryz.ntmps203;(try simp only [yD] at HO); have kk := HO.kk;go_wp2_with (first | ((first | ((with_reducible refine aB HO ?_); intro g hg; rw [← hg.out]; clear hg) | (with_reducible refine ah HO ?_)); clear HO; (try clear kk); intro W' HO kk));obtain ⟨gV, rfl⟩ : ∃ q, q = g := ⟨_, rfl⟩;rename_i gI W1;(try clear kk);replace HO := HO.drew;have hcl : ∀ W W2 : World, (W.cell? ⟨gM, 1, none⟩ = some (.pointer (some ⟨gm, 0, none⟩)) ∧ W.cell? ⟨gM, 2, none⟩ = some (.slice (some ⟨gfr, 0, none⟩) 1 cf) ∧ W.cell? ⟨gfr, 4, none⟩ = some (.int .i64 k)) → Bl W W2 → (W2.cell? ⟨gM, 1, none⟩ = some (.pointer (some ⟨gm, 0, none⟩)) ∧ W2.cell? ⟨gM, 2, none⟩ = some (.slice (some ⟨gfr, 0, none⟩) 1 cf) ∧ W2.cell? ⟨gfr, 4, none⟩ = some (.int .i64 k)) := fun _ _ h k => ⟨ae h.1 (block_lt_of_cell h.1) k, ae h.2.1 (block_lt_of_cell h.2.1) k, ae h.2.2 (block_lt_of_cell h.2.2) k⟩
 have cT := fun W (h : W.cell? ⟨gM, 1, none⟩ = some (.pointer (some ⟨gm, 0, none⟩)) ∧ W.cell? ⟨gM, 2, none⟩ = some (.slice (some ⟨gfr, 0, none⟩) 1 cf) ∧ W.cell? ⟨gfr, 4, none⟩ = some (.int .i64 k)) => iD (w := W) h.2.1
 have hSw := And.intro (HO.cell 2 1 rfl rfl) (And.intro (HO.cell 2 2 rfl rfl) (HO.rowcell 3 4 rfl rfl));refine au (S := fun W => W.cell? ⟨gM, 1, none⟩ = some (.pointer (some ⟨gm, 0, none⟩)) ∧ W.cell? ⟨gM, 2, none⟩ = some (.slice (some ⟨gfr, 0, none⟩) 1 cf) ∧ W.cell? ⟨gfr, 4, none⟩ = some (.int .i64 k)) (by kernel_rfl) ?_;refine ag hcl 0 ?_;refine ag hcl 1 ?_;refine ag hcl 2 ?_;refine ag hcl 3 ?_ (hv := fun w hw => by have q1 := hw.1; go_simp; first | done | with_reducible rfl);refine ag hcl 4 ?_;refine tV hcl 5 116 (fun w hw => cT w hw) ?_;refine ag hcl 6 ?_;refine ag hcl 7 ?_;refine ag hcl 8 ?_ (hv := fun w hw => by have q1 := hw.2.2; go_simp; first | done | with_reducible rfl);refine dC [9] fun W2 hW2 => ?_
 replace HO := HO.then hW2
 clear hW2 hSw;refine dO (fun K hK => ?_);go_simp;go_at_call 244;replace HO := HO.pull 1 rfl;simp only [yE] at HO;replace HO := HO.pull 1 rfl;simp only [yE] at HO;replace HO := HO.pull 3 rfl;simp only [yE] at HO;replace HO := HO.pull 3 rfl;simp only [yE] at HO;replace HO := HO.pull 4 rfl;simp only [yE] at HO;refine (cD _ _ HO).mono ?_;rintro e W6 ⟨rfl, HO⟩;have hSw := And.intro (HO.cell 1 1 rfl rfl) (And.intro (HO.cell 1 2 rfl rfl) (HO.rowcell 2 4 rfl rfl));refine bX hK hSw ?_;clear hK K;refine kS fun W8 hW8 => ?_
 replace HO := HO.then hW8
 clear hW8 hSw hcl cT;(try simp only [yD] at HO); have kk := HO.kk;go_wp2_with fail;(try clear kk);replace HO := HO.drew;have hcl : ∀ W W2 : World, True → Bl W W2 → True := fun _ _ _ _ => trivial
 have hSw : True := trivial;have i9 : (1 : Int) ≤ cf := by omega
 refine au (S := fun _ => True) (by kernel_rfl) ?_;refine ag hcl 0 ?_;refine ag hcl 1 ?_;refine ag hcl 2 ?_;refine ag hcl 3 ?_;refine ag hcl 5 ?_;refine ag hcl 6 ?_;refine ag hcl 7 ?_;refine dC [4, 8] fun W2 hW2 => ?_
 replace HO := HO.then hW2
 clear hW2;apply MB
 case h2 =>
  intro key;refine BF (fun K hK => ?_) fun K hK => ?_
  ·have k0 := HO.cells 1 rfl
   go_simp;refine bX hK trivial ?_;clear hK K k0;refine dC [8] fun W3 hW3 => ?_
   replace HO := HO.then hW3
   clear hW3;refine dO (fun K hK => ?_);have k0 := HO.cells 1 rfl;go_simp;refine bX hK trivial ?_;clear hK K k0;refine ag hcl 9 ?_;refine ag hcl 10 ?_;rw [show IntKind.i64.wrap 0 = 0 from rfl];exact key _ HO
  ·have k0 := HO.cells 1 rfl
   go_simp;refine bX hK trivial ?_;clear hK K k0;refine ag hcl 9 ?_;refine ag hcl 10 ?_;rw [show IntKind.i64.wrap 0 = 0 from rfl];refine dC [4] fun W3 hW3 => ?_
   replace HO := HO.then hW3
   clear hW3;refine dO (fun K hK => ?_);have k0 := HO.cells 1 rfl;go_simp;refine bX hK trivial ?_;clear hK K k0;exact key _ HO
 clear HO;intro W4 HO;refine ag hcl 11 ?_;refine ag hcl 12 ?_;refine ag hcl 13 ?_;refine dC [14] fun W5 hW5 => ?_
 replace HO := HO.then hW5
 clear hW5;have k0 := HO.cells 1 rfl;have m0 := HO.melt 1 rfl;refine dO (fun K hK => ?_);go_simp;have H := HO.set 1 2 (.slice (some ⟨gfr, 0, none⟩) 0 cf) rfl;refine bX hK trivial ?_;clear hK K k0 m0 HO;refine kS fun W8 hW8 => ?_
 have HO := H.then hW8
 clear H hW8 hcl hSw;(try simp only [yT] at HO);replace HO := HO.pull 4 rfl;simp only [yE] at HO;replace HO := HO.pull 4 rfl;simp only [yE] at HO;replace HO := HO.pull 4 rfl;simp only [yE] at HO;replace HO := HO.pull 3 rfl;simp only [yE] at HO;replace HO := HO.pull 4 rfl;simp only [yE] at HO;(try simp only [yD] at HO); have kk := HO.kk;go_wp2_with fail;refine (cE _ _ _ _ _ _ HO).mono ?_;clear HO cE cD;rintro e w1 ⟨rfl, HO⟩;go_wp2_with fail;replace HO := HO.pull 4 rfl;simp only [yE] at HO;replace HO := HO.pull 4 rfl;simp only [yE] at HO;replace HO := HO.pull 3 rfl;simp only [yE] at HO;replace HO := HO.pull 4 rfl;simp only [yE] at HO;replace HO := HO.pull 4 rfl;simp only [yE] at HO;refine bodyPost_ret_by (results_none rfl _ _ _) rfl ⟨rfl, HO.sub (.cons_cons _ (.cons_cons _ (.cons_cons _ (.cons _ (.cons _ (List.Sublist.refl _))))))⟩
theorem Mr (w : World) : (zeroValue 213).run Tryz.prog w = .ok .nilFunc w := by kernel_rfl
theorem Ia (w : World) : (binOp BinOp.neq 213 .nilFunc .nilFunc).run Tryz.prog w = .ok (.bool false) w := by kernel_rfl
theorem ND (n : Nat) (c d : Array Value) (w : World) : (binOp BinOp.neq 213 (.func (.func n) c d) .nilFunc).run Tryz.prog w = .ok (.bool true) w := by kernel_rfl
theorem MZ {W : World} {mb M B : Nat} (h : Mp (.int .u16) uJ (fun _ v x => v = zR x) W mb (ig M B)) : (Instr.lookup 263 (.map (some mb)) (.int .u16 253) false).run Tryz.prog W = .ok (.func (.func 203) #[.pointer (some ⟨M, 0, none⟩)] #[]) W := by
 obtain ⟨v, hv, hq⟩ := h.hit BB Tryz.underlying263 Tryz.underlying26 (k := 253) (x := mF M 203) rfl;subst hv;exact hq false
theorem BD {W : World} {mb M B : Nat} {op : Int} (h : Mp (.int .u16) uJ (fun _ v x => v = zR x) W mb (ig M B)) (hn : ig M B op = none) : (Instr.lookup 263 (.map (some mb)) (.int .u16 op) false).run Tryz.prog W = .ok .nilFunc W := h.miss BB Tryz.underlying263 Tryz.underlying26 hn (Mr W) false
theorem Ae (gM gC gm gfr cf gr cr k sz at_ gv : Nat) (st : Value) (fn bk : Int) (ty res ic : Nat) (ia : Option Addr) (hk : k ≤ cr) (hc : cr ≤ 9223372036854775807) (hcf : 1 ≤ cf) (w0 : World) (L : List As) (w : World) (H : Own aK w0 (kQ gM gC gm gfr cf gr cr k sz (.slice (some ⟨gfr, 0, none⟩) 1 cf) st (.int .u8 0) fn bk at_ gv k L) w) :
  Calls Tryz.prog 121 #[.pointer (some ⟨gM, 0, none⟩), .agg #[.int .u16 253, .int .u32 ty, .int .u32 res, .slice ia 0 ic]] w fun e w' => e = .returned (.tuple #[]) ∧ Own aK w0 (kQ gM gC gm gfr cf gr k k sz (.slice none 0 0) st (.int .u8 1) fn bk at_ gv k L) w' := by
 have HO := H;clear H;unfold kQ at HO;have cB := fun (w : World) (L : List As) H => GR gM gC gm gfr cf gr cr k sz at_ gv st fn bk 253 ty res ic ia hk hc hcf w0 L w H
 unfold kQ at cB;go_enter Tryz.func121, Tryz.ntmps121;(try simp only [yD] at HO); have kk := HO.kk;go_wp2_with (first | (((with_reducible refine aB HO ?_); intro g hg; rw [← hg.out]; clear hg); clear HO; (try clear kk); intro W' HO kk));have cHl := fun (W : World) (mb B : Nat) h => MZ (W := W) (mb := mb) (M := gM) (B := B) h
 obtain ⟨gI, rfl⟩ : ∃ q, q = g := ⟨_, rfl⟩;(try clear kk);replace HO := HO.drew;have hcl : ∀ W W2 : World, (W.cell? ⟨gI, 0, none⟩ = some (.int .u16 253)) → Bl W W2 → W2.cell? ⟨gI, 0, none⟩ = some (.int .u16 253) := fun _ _ h k => ae h (block_lt_of_cell h) k
 have hSw := HO.cell 0 0 rfl rfl;refine au (S := fun W => W.cell? ⟨gI, 0, none⟩ = some (.int .u16 253)) (by kernel_rfl) ?_;refine ag hcl 0 ?_;refine ag hcl 2 ?_;refine ag hcl 3 ?_ (hv := fun w hw => by have q1 := hw; go_simp; first | done | with_reducible rfl);refine dC [1] fun W2 hW2 => ?_
 replace HO := HO.then hW2
 clear hW2 hSw;refine dO (fun K hK => ?_);go_simp;go_at_call 162;refine (jW gM _).mono ?_;rintro e W6 ⟨⟨mb, B, rfl, hMp⟩, hn6⟩;replace HO := HO.then hn6
 clear hn6;refine bX hK (HO.cell 0 0 rfl rfl) ?_;clear hK K;refine dC [4] fun W5 hW5 => ?_
 replace HO := HO.then hW5
 have hM5 := hMp.other (hW5.block mb hMp.lt) (fun _ _ e => e);have hl := cHl _ _ _ hM5;clear hW5 hMp hM5 cHl;refine dO (fun K hK => ?_);go_simp;have hSw := HO.cell 0 0 rfl rfl;refine bX hK hSw ?_;clear hK K hl;refine ag hcl 5 ?_;refine kS fun W8 hW8 => ?_
 replace HO := HO.then hW8
 clear hW8 hSw hcl;have he := ND 203;(try simp only [yD] at HO); have kk := HO.kk;go_wp2_with (first | (refine bG 73 HO Tryz.underlying73 ?_));(try clear kk);replace HO := HO.pull 3 rfl;simp only [yE] at HO;replace HO := HO.pull 3 rfl;simp only [yE] at HO;replace HO := HO.pull 3 rfl;simp only [yE] at HO;refine (cB _ _ HO).mono ?_;clear HO cB he;rintro e w1 ⟨rfl, HO⟩;go_wp2_with fail;unfold kQ;refine bodyPost_ret_by (results_none rfl _ _ _) rfl ⟨rfl, HO.sub (.cons_cons _ (.cons_cons _ (.cons_cons _ (.cons _ (List.Sublist.refl _)))))⟩
end Go.Proofs.YtlkolghiknbbfaaGreatDoor
