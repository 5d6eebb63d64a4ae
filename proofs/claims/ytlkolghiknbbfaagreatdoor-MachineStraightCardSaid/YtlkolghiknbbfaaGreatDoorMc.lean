/- Machine: carry, of what makes words. -/
import Derived.Test.YtlkolghiknbbfaaGreatDoorMb
set_option linter.unusedVariables false
set_option linter.unusedSimpArgs false
set_option maxRecDepth 100000
set_option maxHeartbeats 4000000
namespace Go.Proofs.YtlkolghiknbbfaaGreatDoor
open Go.RowKit Go.MapKept
theorem Own.rowset {X : Nat → Prop} {w W : World} {L : List As} (h : Own X w L W) (i j : Nat) (u : Value) {base g c n sz : Nat} {e : TypeId} {xs : List Value} (hi : L[i]? = some (bM base e sz (.slice (some ⟨g, 0, none⟩) n c) n xs)) : Own X w (L.set i (bM base e sz (.slice (some ⟨g, 0, none⟩) n c) n (xs.set j u))) (W.setCell ⟨g, j, none⟩ u) := by
 obtain ⟨h1, h2⟩ := World.ownsRow.stored (h.at i hi : W.ownsRow base e sz (.slice (some ⟨g, 0, none⟩) n c) n xs) j u;exact h.grown i hi h2 h1 (fun k hk => .inl hk)
theorem kM {P : Program} {ops : Array Oper} {Q : Exit → Act → World → Prop} {l : List Oper} {a : Act} {X : Nat → Prop} {w W : World} {L : List As} (i : Nat) {base g c n sz j : Nat} {u : Value} {e : TypeId} {xs : List Value} (h : Own X w L W) (hi : L[i]? = some (bM base e sz (.slice (some ⟨g, 0, none⟩) n c) n xs)) (k : ∀ W', Own X w (L.set i (bM base e sz (.slice (some ⟨g, 0, none⟩) n c) n (xs.set j u))) W' → wpList P ops Q l a W') : wpList P ops Q l a (W.setCell ⟨g, j, none⟩ u) := k _ (h.rowset i j u hi)
theorem jJ {P : Program} {Q : Exit → Act → World → Prop} {cd : Code} {a : Act} {X : Nat → Prop} {w W : World} {L : List As} (i : Nat) {base g c n sz j : Nat} {u : Value} {e : TypeId} {xs : List Value} (h : Own X w L W) (hi : L[i]? = some (bM base e sz (.slice (some ⟨g, 0, none⟩) n c) n xs)) (k : ∀ W', Own X w (L.set i (bM base e sz (.slice (some ⟨g, 0, none⟩) n c) n (xs.set j u))) W' → cd.wp P Q a W') : cd.wp P Q a (W.setCell ⟨g, j, none⟩ u) := k _ (h.rowset i j u hi)
def ValOk (D : Nat → Prop) (W : World) : Option uP → Option (Nat × Nat) → Prop
 | some x, some y => x.ty = y.1 ∧ D x.at_ ∧ W.cell? ⟨x.at_, 0, none⟩ = some (.int .u32 y.2)
 | none, none => True
 | _, _ => False
def gZ (D : Nat → Prop) (f : Nat → Option uP) (val : Nat → Option (Nat × Nat)) : As := ⟨D, fun W => ∀ id, ValOk D W (f id) (val id), fun W W' h hk id => by
 have := h id
 revert this
 cases f id <;> cases val id <;> intro this
 ·exact this
 ·exact this
 ·exact this
 ·exact ⟨this.1, this.2.1, (World.cell?_of_block (a := ⟨_, 0, none⟩) (hk _ this.2.1)).trans this.2.2⟩⟩
theorem Own.wordv {X : Nat → Prop} {w W : World} {L : List As} {D : Nat → Prop} {f : Nat → Option uP} {val : Nat → Option (Nat × Nat)} {lo hi g y : Nat} (h : Own X w (Go.Proofs.YtlkolghiknbbfaaGreatDoor.deep lo hi (MK g y) :: gZ D f val :: L) W) (id ty c : Nat) : Own X w (gZ (fun b => (lo ≤ b ∧ b < hi) ∨ D b) (dJ f id ⟨ty, g, c⟩) (dJ val id (ty, y)) :: L) W := by
 have h2 := h.join;have hd := (h.at 0 rfl : aO _ _ _ W);have hr := h.at 1 rfl;refine h2.recast 0 (A' := gZ (fun b => (lo ≤ b ∧ b < hi) ∨ D b) (dJ f id ⟨ty, g, c⟩) (dJ val id (ty, y))) rfl (fun k hk => hk) ?_;intro j;unfold dJ;by_cases q : j = id
 ·rw [if_pos q, if_pos q]
  obtain ⟨U, u1, u2, u3⟩ := hd.at_;have hb : g < hi := by
   rw [← u1];exact block_lt_of_cell u2.2
  exact ⟨rfl, .inl ⟨u2.1, hb⟩, (World.cell?_of_block (a := ⟨g, 0, none⟩) (u3 g u2.1 hb)).trans u2.2⟩
 ·rw [if_neg q, if_neg q]
  have := hr j
  revert this
  cases f j <;> cases val j <;> intro this
  ·exact this
  ·exact this
  ·exact this
  ·exact ⟨this.1, .inr this.2.1, this.2.2⟩
theorem BU (gM gC gm gfr cf gr cr k sz at_ gv rs : Nat) (st : Value) (fn bk : Int) (op ty res z il ic : Nat) (ia : Option Addr) (hn : ∀ B, ig gM B (op : Int) = none) (h62 : op ≠ 62) (h65 : op ≠ 65) (f : Nat → Option uP) (val : Nat → Option (Nat × Nat)) (D : Nat → Prop) (hat : at_ ≤ 1000000) (w0 : World) (L : List As) (w : World) (H : Own aK w0 (kQ gM gC gm gfr cf gr cr k sz (.slice (some ⟨gfr, 0, none⟩) 1 cf) st (.int .u8 0) fn bk at_ gv rs (iO (.int .u32) bR iL gv f :: gZ D f val :: L)) w)
  (cM : ∀ L' W, Own aK w0 (L' ++ kQ gM gC gm gfr cf gr cr k sz (.slice (some ⟨gfr, 0, none⟩) 1 cf) st (.int .u8 0) fn bk at_ gv rs (iO (.int .u32) bR iL gv f :: gZ D f val :: L)) W → Calls Tryz.prog 166 #[.pointer (some ⟨gM, 0, none⟩), .agg #[.int .u16 op, .int .u32 ty, .int .u32 res, .slice ia il ic]] W fun e w' => (∃ g c, e = .returned (.slice (some ⟨g, 0, none⟩) 1 c) ∧ MK g z W.heap.size w') ∧ Bl W w')
  (cS : ∀ L' W f' D' val', Own aK w0 (L' ++ kQ gM gC gm gfr cf gr cr k sz (.slice (some ⟨gfr, 0, none⟩) 1 cf) st (.int .u8 0) fn bk (at_ + 1) gv rs (iO (.int .u32) bR iL gv f' :: gZ D' f' val' :: L)) W → Qc 161 #[.pointer (some ⟨gM, 0, none⟩)] W (.tuple #[])) :
  Calls Tryz.prog 121 #[.pointer (some ⟨gM, 0, none⟩), .agg #[.int .u16 op, .int .u32 ty, .int .u32 res, .slice ia il ic]] w fun e w' => e = .returned (.tuple #[]) ∧ ∃ g c D', Own aK w0 (kQ gM gC gm gfr cf gr cr k sz (.slice (some ⟨gfr, 0, none⟩) 1 cf) st (.int .u8 0) fn bk (at_ + 1) gv rs (iO (.int .u32) bR iL gv (dJ f res ⟨ty, g, c⟩) :: gZ D' (dJ f res ⟨ty, g, c⟩) (dJ val res (ty, z)) :: L)) w' := by
 have HO := H;clear H;unfold kQ at HO;have i1 : ((op : Int) == 62) = false := by rw [beq_eq_false_iff_ne]; omega
 have i2 : ((op : Int) == 65) = false := by rw [beq_eq_false_iff_ne]; omega
 clear h62 h65;go_enter Tryz.func121, Tryz.ntmps121;(try simp only [yD] at HO); have kk := HO.kk;go_wp2_with (first | (((with_reducible refine aB HO ?_); intro g hg; rw [← hg.out]; clear hg); clear HO; (try clear kk); intro W' HO kk));have cHl := fun (W : World) (mb B : Nat) h => BD (W := W) (mb := mb) (M := gM) (B := B) (op := op) h (hn B)
 obtain ⟨gI, rfl⟩ : ∃ q, q = g := ⟨_, rfl⟩;(try clear kk);replace HO := HO.drew;have hcl : ∀ W W2 : World, (W.cell? ⟨gI, 0, none⟩ = some (.int .u16 op)) → Bl W W2 → W2.cell? ⟨gI, 0, none⟩ = some (.int .u16 op) := fun _ _ h k => ae h (block_lt_of_cell h) k
 have hSw := HO.cell 0 0 rfl rfl;refine au (S := fun W => W.cell? ⟨gI, 0, none⟩ = some (.int .u16 op)) (by kernel_rfl) ?_;refine ag hcl 0 ?_;refine ag hcl 2 ?_;refine ag hcl 3 ?_ (hv := fun w hw => by have q1 := hw; go_simp; first | done | with_reducible rfl);refine dC [1] fun W2 hW2 => ?_
 replace HO := HO.then hW2
 clear hW2 hSw;refine dO (fun K hK => ?_);go_simp;go_at_call 162;refine (jW gM _).mono ?_;rintro e W6 ⟨⟨mb, B, rfl, hMp⟩, hn6⟩;replace HO := HO.then hn6
 clear hn6;refine bX hK (HO.cell 0 0 rfl rfl) ?_;clear hK K;refine dC [4] fun W5 hW5 => ?_
 replace HO := HO.then hW5
 have hM5 := hMp.other (hW5.block mb hMp.lt) (fun _ _ e => e);have hl := cHl _ _ _ hM5;clear hW5 hMp hM5 cHl;refine dO (fun K hK => ?_);go_simp;have hSw := HO.cell 0 0 rfl rfl;refine bX hK hSw ?_;clear hK K hl;refine ag hcl 5 ?_;refine kS fun W8 hW8 => ?_
 replace HO := HO.then hW8
 clear hW8 hSw hcl;clear hn;have he := Ia;(try simp only [yD] at HO); have kk := HO.kk;go_wp2_with fail;(try clear kk);replace HO := HO.drew;have hcl : ∀ W W2 : World, (W.cell? ⟨gM, 2, none⟩ = some (.slice (some ⟨gfr, 0, none⟩) 1 cf) ∧ W.cell? ⟨gfr, 3, none⟩ = some (.map (some gv)) ∧ W.cell? ⟨gI, 0, none⟩ = some (.int .u16 op) ∧ W.cell? ⟨gI, 1, none⟩ = some (.int .u32 ty) ∧ W.cell? ⟨gI, 2, none⟩ = some (.int .u32 res) ∧ W.cell? ⟨gI, 3, none⟩ = some (.slice ia il ic)) → Bl W W2 → (W2.cell? ⟨gM, 2, none⟩ = some (.slice (some ⟨gfr, 0, none⟩) 1 cf) ∧ W2.cell? ⟨gfr, 3, none⟩ = some (.map (some gv)) ∧ W2.cell? ⟨gI, 0, none⟩ = some (.int .u16 op) ∧ W2.cell? ⟨gI, 1, none⟩ = some (.int .u32 ty) ∧ W2.cell? ⟨gI, 2, none⟩ = some (.int .u32 res) ∧ W2.cell? ⟨gI, 3, none⟩ = some (.slice ia il ic)) := fun _ _ h k => ⟨ae h.1 (block_lt_of_cell h.1) k, ae h.2.1 (block_lt_of_cell h.2.1) k, ae h.2.2.1 (block_lt_of_cell h.2.2.1) k, ae h.2.2.2.1 (block_lt_of_cell h.2.2.2.1) k, ae h.2.2.2.2.1 (block_lt_of_cell h.2.2.2.2.1) k, ae h.2.2.2.2.2 (block_lt_of_cell h.2.2.2.2.2) k⟩
 have mkS : ∀ (W : World) (a b c : Nat) (LL : List As), Own aK w0 LL W → LL[a]? = some (aP gI #[.int .u16 op, .int .u32 ty, .int .u32 res, .slice ia il ic] 73) → LL[b]? = some (aP gM #[.pointer (some ⟨gC, 0, none⟩), .pointer (some ⟨gm, 0, none⟩), .slice (some ⟨gfr, 0, none⟩) 1 cf, st, .int .u8 0] 144) → LL[c]? = some (bM 0 201 5 (.slice (some ⟨gfr, 0, none⟩) 1 cf) 1 [.int .i64 fn, .int .i64 bk, .int .i64 at_, .map (some gv), .int .i64 rs]) → (W.cell? ⟨gM, 2, none⟩ = some (.slice (some ⟨gfr, 0, none⟩) 1 cf) ∧ W.cell? ⟨gfr, 3, none⟩ = some (.map (some gv)) ∧ W.cell? ⟨gI, 0, none⟩ = some (.int .u16 op) ∧ W.cell? ⟨gI, 1, none⟩ = some (.int .u32 ty) ∧ W.cell? ⟨gI, 2, none⟩ = some (.int .u32 res) ∧ W.cell? ⟨gI, 3, none⟩ = some (.slice ia il ic)) := fun W a b c LL h h1 h2 h3 => ⟨h.cell b 2 h2 rfl, h.rowcell c 3 h3 rfl, h.cell a 0 h1 rfl, h.cell a 1 h1 rfl, h.cell a 2 h1 rfl, h.cell a 3 h1 rfl⟩
 have cT := fun W (h : W.cell? ⟨gM, 2, none⟩ = some (.slice (some ⟨gfr, 0, none⟩) 1 cf) ∧ W.cell? ⟨gfr, 3, none⟩ = some (.map (some gv)) ∧ W.cell? ⟨gI, 0, none⟩ = some (.int .u16 op) ∧ W.cell? ⟨gI, 1, none⟩ = some (.int .u32 ty) ∧ W.cell? ⟨gI, 2, none⟩ = some (.int .u32 res) ∧ W.cell? ⟨gI, 3, none⟩ = some (.slice ia il ic)) => iD (w := W) h.1
 have hSw := mkS _ 0 1 2 _ HO rfl rfl rfl;refine au (S := fun W => W.cell? ⟨gM, 2, none⟩ = some (.slice (some ⟨gfr, 0, none⟩) 1 cf) ∧ W.cell? ⟨gfr, 3, none⟩ = some (.map (some gv)) ∧ W.cell? ⟨gI, 0, none⟩ = some (.int .u16 op) ∧ W.cell? ⟨gI, 1, none⟩ = some (.int .u32 ty) ∧ W.cell? ⟨gI, 2, none⟩ = some (.int .u32 res) ∧ W.cell? ⟨gI, 3, none⟩ = some (.slice ia il ic)) (by kernel_rfl) ?_;refine ag hcl 0 ?_;refine tV hcl 1 116 (fun w hw => cT w hw) ?_;refine ag hcl 2 ?_;refine ag hcl 3 ?_;refine ag hcl 4 ?_ (hv := fun w hw => by have q1 := hw.2.1; go_simp; first | done | with_reducible rfl);refine ag hcl 5 ?_;refine ag hcl 6 ?_ (hv := fun w hw => by have q1 := hw.2.2.2.2.1; go_simp; first | done | with_reducible rfl);refine ag hcl 7 ?_;refine ag hcl 8 ?_ (hv := fun w hw => by have q1 := hw.2.2.2.1; go_simp; first | done | with_reducible rfl);refine ag hcl 9 ?_;refine ag hcl 10 ?_ (hv := fun w hw => by obtain ⟨-, -, q1, q2, q3, q4⟩ := hw; go_simp; first | done | with_reducible rfl);refine dC [11] fun W2 hW2 => ?_
 replace HO := HO.then hW2
 clear hW2 hSw;refine dO (fun K hK => ?_);go_simp;go_at_call 166;refine (cM [_] _ HO).mono ?_;rintro e W6 ⟨⟨g2, c2, rfl, hq⟩, hn6⟩;replace HO := HO.deep (P := MK g2 z) hn6 hq;clear hn6 hq;have hSw := mkS _ 1 2 3 _ HO rfl rfl rfl;refine bX hK hSw ?_;clear hK K;refine ag hcl 12 ?_;refine dC [13] fun W5 hW5 => ?_
 replace HO := HO.then hW5
 clear hW5 hSw;obtain ⟨o2, hup, hm2⟩ := Mp.put (HO.at 5 rfl) dK Tryz.underlying199 Tryz.underlying22 res (iL ⟨ty, g2, c2⟩) ⟨ty, g2, c2⟩ (fun _ _ _ h => h) (fun _ => rfl);have hup2 : (Instr.mapUpdate 199 (.map (some gv)) (.int .u32 res) (.agg #[.int .u32 ty, .slice (some ⟨g2, 0, none⟩) 1 c2, .bool false, .int .i64 0, .int .i64 0])).run Tryz.prog W5 = .ok () (aT W5 gv o2) := hup;refine dO (fun K hK => ?_);go_simp;have H := HO.map 5 o2 rfl hm2;refine bX hK (mkS _ 1 2 3 _ H rfl rfl rfl) ?_;clear hK K hup hup2 hm2 HO;refine kS fun W8 hW8 => ?_
 have HO := H.then hW8
 clear H hW8 hcl mkS cT cM;simp only [yT] at HO;replace HO := HO.pull 5 rfl;simp only [yE] at HO;replace HO := HO.pull 5 rfl;simp only [yE] at HO;replace HO := HO.pull 5 rfl;simp only [yE] at HO;replace HO := HO.pull 5 rfl;simp only [yE] at HO;replace HO := HO.pull 5 rfl;simp only [yE] at HO;replace HO := HO.pull 6 rfl;simp only [yE] at HO;replace HO := HO.pull 6 rfl;simp only [yE] at HO;replace HO := HO.wordv res ty c2;replace HO := HO.pull 5 rfl;simp only [yE] at HO;replace HO := HO.pull 5 rfl;simp only [yE] at HO;replace HO := HO.pull 5 rfl;simp only [yE] at HO;replace HO := HO.pull 5 rfl;simp only [yE] at HO;replace HO := HO.pull 5 rfl;simp only [yE] at HO;have ih : (at_ : Int) ≤ 1000000 := by omega
 (try simp only [yD] at HO); have kk := HO.kk;go_wp2_with (first | (go_at_call 116; (refine (iD (HO.cell 1 2 rfl rfl)).mono ?_); rintro e w1 ⟨rfl, hn1⟩; replace HO := HO.then hn1; clear hn1; (try clear kk); have y2 := HO.rowcell 2 2 rfl rfl; have yf := World.ownsRow.frozenAt (HO.at 2 rfl : w1.ownsRow _ _ 5 (.slice (some ⟨gfr, 0, none⟩) 1 cf) 1 _) 2; have yz := block_lt_of_cell y2; (try simp only [yD] at HO); have kk := HO.kk) | ((first | refine kM 2 HO rfl ?_ | refine jJ 2 HO rfl ?_); intro W9 HO9; clear HO; (try clear kk); (try clear y2 yf yz); have HO := HO9; clear HO9; (try simp only [yT] at HO); (try simp only [yD] at HO); have kk := HO.kk));refine (cS [_] _ _ _ _ HO).mono ?_;clear cS he;rintro e w1 ⟨rfl, hn1⟩;replace HO := HO.then hn1
 clear hn1;go_wp2_with fail;unfold kQ
 first
  | exact bodyPost_end (results_none rfl _ _ _) rfl ⟨rfl, g2, c2, _, HO.drop 1⟩
  | exact bodyPost_ret_by (results_none rfl _ _ _) rfl ⟨rfl, g2, c2, _, HO.drop 1⟩
theorem oJ (gM gC gm gfr cf gr cr k sz at_ gv rs base gq m c r : Nat) (st : Value) (fn bk : Int) (ty res ic ab ao x y pty : Nat) (hn : ∀ B, ig gM B 62 = none) (xs : List Value) (ys : List Nat) (hat : at_ ≤ 1000000) (w0 : World) (LL : List As) (w : World) (H : Own aK w0 (kQ gM gC gm gfr cf gr cr k sz (.slice (some ⟨gfr, 0, none⟩) 1 cf) st (.int .u8 0) fn bk at_ gv rs (bM base 22 1 (.slice (some ⟨gq, 0, none⟩) m c) m xs :: LL)) w)
  (cX : ∀ (us : List Value) L' W, Own aK w0 (L' ++ kQ gM gC gm gfr cf gr cr k sz (.slice (some ⟨gfr, 0, none⟩) 1 cf) st (.int .u8 0) fn bk at_ gv rs (bM base 22 1 (.slice (some ⟨gq, 0, none⟩) m c) m us :: LL)) W → W.cell? ⟨ab, ao + 1, none⟩ = some (.int .u32 x) ∧ W.cell? ⟨ab, ao + 4, none⟩ = some (.int .u32 y)) (hl : ys.length = m) (h0 : 0 < m)
  (hR : ∀ L' W, Own aK w0 (L' ++ kQ gM gC gm gfr cf gr cr k sz (.slice (some ⟨gfr, 0, none⟩) 1 cf) st (.int .u8 0) fn bk at_ gv rs (bM base 22 1 (.slice (some ⟨gq, 0, none⟩) m c) m xs :: LL)) W → Room gm gr gq r k m c cr W)
  (cA : ∀ L' W, Own aK w0 (L' ++ kQ gM gC gm gfr cf gr cr k sz (.slice (some ⟨gfr, 0, none⟩) 1 cf) st (.int .u8 0) fn bk at_ gv rs (bM base 22 1 (.slice (some ⟨gq, 0, none⟩) m c) m xs :: LL)) W → Qc 159 #[.pointer (some ⟨gM, 0, none⟩), .int .u32 x] W (.agg #[.int .u32 pty, .slice none 0 0, .bool true, .int .i64 r, .int .i64 0]))
  (cW : ∀ L' W, Own aK w0 (L' ++ kQ gM gC gm gfr cf gr cr k sz (.slice (some ⟨gfr, 0, none⟩) 1 cf) st (.int .u8 0) fn bk at_ gv rs (bM base 22 1 (.slice (some ⟨gq, 0, none⟩) m c) m xs :: LL)) W → Calls Tryz.prog 164 #[.pointer (some ⟨gM, 0, none⟩), .int .u32 y] W fun e w' => ∃ b sc LX R, e = .returned (.slice (some ⟨b, 0, none⟩) m sc) ∧ Own aK w0 (LX ++ (L' ++ kQ gM gC gm gfr cf gr cr k sz (.slice (some ⟨gfr, 0, none⟩) 1 cf) st (.int .u8 0) fn bk at_ gv rs (bM base 22 1 (.slice (some ⟨gq, 0, none⟩) m c) m xs :: LL))) w' ∧ Bl W w' ∧ (R ∈ LX ∨ R ∈ LL) ∧ ∀ W, R.holds W → ∀ j u, (wV ys)[j]? = some u → W.cell? ⟨b, 0 + j, none⟩ = some u)
  (cS : ∀ L' W, Own aK w0 (L' ++ kQ gM gC gm gfr cf gr cr k sz (.slice (some ⟨gfr, 0, none⟩) 1 cf) st (.int .u8 0) fn bk (at_ + 1) gv rs (bM base 22 1 (.slice (some ⟨gq, 0, none⟩) m c) m (wV ys) :: LL)) W → Qc 161 #[.pointer (some ⟨gM, 0, none⟩)] W (.tuple #[])) :
  Calls Tryz.prog 121 #[.pointer (some ⟨gM, 0, none⟩), .agg #[.int .u16 62, .int .u32 ty, .int .u32 res, .slice (some ⟨ab, ao, none⟩) 2 ic]] w fun e w' => e = .returned (.tuple #[]) ∧ Own aK w0 (kQ gM gC gm gfr cf gr cr k sz (.slice (some ⟨gfr, 0, none⟩) 1 cf) st (.int .u8 0) fn bk (at_ + 1) gv rs (bM base 22 1 (.slice (some ⟨gq, 0, none⟩) m c) m (wV ys) :: LL)) w' := by
 have HO := H;clear H;unfold kQ at HO;go_enter Tryz.func121, Tryz.ntmps121;(try simp only [yD] at HO); have kk := HO.kk;go_wp2_with (first | (((with_reducible refine aB HO ?_); intro g hg; rw [← hg.out]; clear hg); clear HO; (try clear kk); intro W' HO kk));have cHl := fun (W : World) (mb B : Nat) h => BD (W := W) (mb := mb) (M := gM) (B := B) (op := 62) h (hn B)
 obtain ⟨gI, rfl⟩ : ∃ q, q = g := ⟨_, rfl⟩;(try clear kk);replace HO := HO.drew;have hcl : ∀ W W2 : World, (W.cell? ⟨gI, 0, none⟩ = some (.int .u16 62)) → Bl W W2 → W2.cell? ⟨gI, 0, none⟩ = some (.int .u16 62) := fun _ _ h k => ae h (block_lt_of_cell h) k
 have hSw := HO.cell 0 0 rfl rfl;refine au (S := fun W => W.cell? ⟨gI, 0, none⟩ = some (.int .u16 62)) (by kernel_rfl) ?_;refine ag hcl 0 ?_;refine ag hcl 2 ?_;refine ag hcl 3 ?_ (hv := fun w hw => by have q1 := hw; go_simp; first | done | with_reducible rfl);refine dC [1] fun W2 hW2 => ?_
 replace HO := HO.then hW2
 clear hW2 hSw;refine dO (fun K hK => ?_);go_simp;go_at_call 162;refine (jW gM _).mono ?_;rintro e W6 ⟨⟨mb, B, rfl, hMp⟩, hn6⟩;replace HO := HO.then hn6
 clear hn6;refine bX hK (HO.cell 0 0 rfl rfl) ?_;clear hK K;refine dC [4] fun W5 hW5 => ?_
 replace HO := HO.then hW5
 have hM5 := hMp.other (hW5.block mb hMp.lt) (fun _ _ e => e);have hl := cHl _ _ _ hM5;clear hW5 hMp hM5 cHl;refine dO (fun K hK => ?_);go_simp;have hSw := HO.cell 0 0 rfl rfl;refine bX hK hSw ?_;clear hK K hl;refine ag hcl 5 ?_;refine kS fun W8 hW8 => ?_
 replace HO := HO.then hW8
 clear hW8 hSw hcl;clear hn;have he := Ia;obtain ⟨x1, x4⟩ := cX _ [_] _ HO;have zx := block_lt_of_cell x1;(try simp only [yD] at HO); have kk := HO.kk;go_wp2_with (first | ((first | ((with_reducible refine aB HO ?_); intro g hg; rw [← hg.out]; clear hg) | (with_reducible refine ah HO ?_)); clear HO; (try clear kk); intro W' HO kk) | (go_at_call 159; (refine (cA [_] _ HO).mono ?_); rintro e w1 ⟨rfl, hn1⟩; replace HO := HO.then hn1; clear hn1; (try clear kk); have kk := HO.kk) | ((refine ay 205 HO ?_); clear HO; (try clear kk); intro W' HO kk));obtain ⟨gp, rfl⟩ : ∃ q, q = g := ⟨_, rfl⟩;(try clear kk);clear x1 x4 zx;replace HO := HO.drew;have hcl : ∀ W W2 : World, (W.cell? ⟨gM, 1, none⟩ = some (.pointer (some ⟨gm, 0, none⟩)) ∧ W.cell? ⟨gI, 3, none⟩ = some (.slice (some ⟨ab, ao, none⟩) 2 ic) ∧ W.cell? ⟨ab, ao + 4, none⟩ = some (.int .u32 y) ∧ W.cell? ⟨gp, 3, none⟩ = some (.int .i64 r) ∧ W.cell? ⟨gp, 4, none⟩ = some (.int .i64 0)) → Bl W W2 → (W2.cell? ⟨gM, 1, none⟩ = some (.pointer (some ⟨gm, 0, none⟩)) ∧ W2.cell? ⟨gI, 3, none⟩ = some (.slice (some ⟨ab, ao, none⟩) 2 ic) ∧ W2.cell? ⟨ab, ao + 4, none⟩ = some (.int .u32 y) ∧ W2.cell? ⟨gp, 3, none⟩ = some (.int .i64 r) ∧ W2.cell? ⟨gp, 4, none⟩ = some (.int .i64 0)) := fun _ _ h k => ⟨ae h.1 (block_lt_of_cell h.1) k, ae h.2.1 (block_lt_of_cell h.2.1) k, ae h.2.2.1 (block_lt_of_cell h.2.2.1) k, ae h.2.2.2.1 (block_lt_of_cell h.2.2.2.1) k, ae h.2.2.2.2 (block_lt_of_cell h.2.2.2.2) k⟩
 have hSw := And.intro (HO.cell 2 1 rfl rfl) (And.intro (HO.cell 1 3 rfl rfl) (And.intro (cX _ [_, _] _ HO).2 (And.intro (HO.cell 0 3 rfl rfl) (HO.cell 0 4 rfl rfl))));refine au (S := fun W => W.cell? ⟨gM, 1, none⟩ = some (.pointer (some ⟨gm, 0, none⟩)) ∧ W.cell? ⟨gI, 3, none⟩ = some (.slice (some ⟨ab, ao, none⟩) 2 ic) ∧ W.cell? ⟨ab, ao + 4, none⟩ = some (.int .u32 y) ∧ W.cell? ⟨gp, 3, none⟩ = some (.int .i64 r) ∧ W.cell? ⟨gp, 4, none⟩ = some (.int .i64 0)) (by kernel_rfl) ?_;refine ag hcl 0 ?_;refine ag hcl 1 ?_;refine ag hcl 2 ?_;refine ag hcl 3 ?_ (hv := fun w hw => by have q1 := hw.1; go_simp; first | done | with_reducible rfl);refine ag hcl 4 ?_;refine ag hcl 5 ?_ (hv := fun w hw => by have q1 := hw.2.2.2.1; go_simp; first | done | with_reducible rfl);refine ag hcl 6 ?_;refine ag hcl 7 ?_ (hv := fun w hw => by have q1 := hw.2.2.2.2; go_simp; first | done | with_reducible rfl);refine ag hcl 8 ?_;refine ag hcl 9 ?_;refine ag hcl 10 ?_ (hv := fun w hw => by have q1 := hw.2.1; go_simp; first | done | with_reducible rfl);refine ag hcl 11 ?_;refine ag hcl 12 ?_;refine ag hcl 13 ?_ (hv := fun w hw => by have q1 := hw.2.2.1; go_simp; first | done | with_reducible rfl);refine dC [14] fun W2 hW2 => ?_
 replace HO := HO.then hW2
 clear hW2;refine dO (fun K hK => ?_);go_simp;go_at_call 164;have hS2 := And.intro (HO.cell 2 1 rfl rfl) (And.intro (HO.cell 1 3 rfl rfl) (And.intro (cX _ [_, _] _ HO).2 (And.intro (HO.cell 0 3 rfl rfl) (HO.cell 0 4 rfl rfl))));refine (cW [_, _] _ HO).mono ?_;rintro e W6 ⟨b, sc, LX, R, rfl, HO, hn6, hm, hw⟩;refine bX hK (hcl _ _ hS2 hn6) ?_;clear hK K;obtain ⟨PL, hPL⟩ : ∃ PL : List As, PL = LX ++ [aP gp #[.int .u32 pty, .slice none 0 0, .bool true, .int .i64 r, .int .i64 0] 205, aP gI #[.int .u16 62, .int .u32 ty, .int .u32 res, .slice (some ⟨ab, ao, none⟩) 2 ic] 73, aP gM #[.pointer (some ⟨gC, 0, none⟩), .pointer (some ⟨gm, 0, none⟩), .slice (some ⟨gfr, 0, none⟩) 1 cf, st, .int .u8 0] 144, bM 0 201 5 (.slice (some ⟨gfr, 0, none⟩) 1 cf) 1 [.int .i64 fn, .int .i64 bk, .int .i64 at_, .map (some gv), .int .i64 rs], aP gm #[.slice (some ⟨gr, 0, none⟩) k cr, .int .i64 sz] 197] := ⟨_, rfl⟩;have toP : ∀ us W, Own aK w0 (PL ++ bM base 22 1 (.slice (some ⟨gq, 0, none⟩) m c) m us :: LL) W → Own aK w0 (aP gp #[.int .u32 pty, .slice none 0 0, .bool true, .int .i64 r, .int .i64 0] 205 :: aP gI #[.int .u16 62, .int .u32 ty, .int .u32 res, .slice (some ⟨ab, ao, none⟩) 2 ic] 73 :: aP gM #[.pointer (some ⟨gC, 0, none⟩), .pointer (some ⟨gm, 0, none⟩), .slice (some ⟨gfr, 0, none⟩) 1 cf, st, .int .u8 0] 144 :: bM 0 201 5 (.slice (some ⟨gfr, 0, none⟩) 1 cf) 1 [.int .i64 fn, .int .i64 bk, .int .i64 at_, .map (some gv), .int .i64 rs] :: aP gm #[.slice (some ⟨gr, 0, none⟩) k cr, .int .i64 sz] 197 :: bM base 22 1 (.slice (some ⟨gq, 0, none⟩) m c) m us :: LL) W := fun us W h => by
  rw [hPL, List.append_assoc] at h;exact h.sub (List.sublist_append_right _ _)
 have HP : Own aK w0 (bM base 22 1 (.slice (some ⟨gq, 0, none⟩) m c) m xs :: (PL ++ LL)) W6 := Own.perm (L := PL ++ bM base 22 1 (.slice (some ⟨gq, 0, none⟩) m c) m xs :: LL) (by rw [hPL, List.append_assoc]; exact HO) List.perm_middle;have hmem : R ∈ PL ++ LL := by
  rw [hPL];rcases hm with q | q
  ·exact List.mem_append_left _ (List.mem_append_left _ q)
  ·exact List.mem_append_right _ q
 obtain ⟨ri, hri⟩ := List.getElem?_of_mem hmem;have cSt := fun (w : World) H => Ed (gm := gm) (gr := gr) (g := gq) (r := r) (k := k) (m := m) (c := c) (cr := cr) (w0 := w0) b 0 sc base xs ys R ri (PL ++ LL) w hl h0 (fun W h => hR [_, _] W (toP _ W (h.perm List.perm_middle.symm))) hri hw H
 clear hm hmem hri hR hw HO hS2 cW cA hPL;refine dC [15] fun W7 hW7 => ?_
 replace HP := HP.then hW7
 clear hW7;refine dO (fun K hK => ?_);go_simp;go_at_call 163;refine (cSt _ HP).mono ?_;clear HP cSt;rintro e W8 ⟨rfl, HP⟩;have HO := toP _ _ (HP.perm List.perm_middle.symm);clear HP toP;refine bX hK (And.intro (HO.cell 2 1 rfl rfl) (And.intro (HO.cell 1 3 rfl rfl) (And.intro (cX _ [_, _] _ HO).2 (And.intro (HO.cell 0 3 rfl rfl) (HO.cell 0 4 rfl rfl))))) ?_;clear hK K;refine kS fun W9 hW9 => ?_
 replace HO := HO.then hW9
 clear hW9 hcl cX;have ih : (at_ : Int) ≤ 1000000 := by omega
 (try simp only [yD] at HO); have kk := HO.kk;go_wp2_with (first | (go_at_call 116; (refine (iD (HO.cell 2 2 rfl rfl)).mono ?_); rintro e w1 ⟨rfl, hn1⟩; replace HO := HO.then hn1; clear hn1; (try clear kk); have y2 := HO.rowcell 3 2 rfl rfl; have yf := World.ownsRow.frozenAt (HO.at 3 rfl : w1.ownsRow _ _ 5 (.slice (some ⟨gfr, 0, none⟩) 1 cf) 1 _) 2; have yz := block_lt_of_cell y2; (try simp only [yD] at HO); have kk := HO.kk) | ((first | refine kM 3 HO rfl ?_ | refine jJ 3 HO rfl ?_); intro W9 HO9; clear HO; (try clear kk); (try clear y2 yf yz); have HO := HO9; clear HO9; (try simp only [yT] at HO); (try simp only [yD] at HO); have kk := HO.kk));refine (cS [_, _] _ HO).mono ?_;clear cS he;rintro e w1 ⟨rfl, hn1⟩;replace HO := HO.then hn1
 clear hn1;go_wp2_with fail;unfold kQ;exact bodyPost_end (results_none rfl _ _ _) rfl ⟨rfl, HO.drop 2⟩
structure Ins (gM gC gi n ci at_ op ty res il ic : Nat) (ia : Option Addr) (W : World) : Prop where
 m0 : W.cell? ⟨gM, 0, none⟩ = some (.pointer (some ⟨gC, 0, none⟩))
 c0 : W.cell? ⟨gC, 0, none⟩ = some (.slice (some ⟨gi, 0, none⟩) n ci)
 i0 : W.cell? ⟨gi, at_ * 4, none⟩ = some (.int .u16 op)
 i1 : W.cell? ⟨gi, at_ * 4 + 1, none⟩ = some (.int .u32 ty)
 i2 : W.cell? ⟨gi, at_ * 4 + 2, none⟩ = some (.int .u32 res)
 i3 : W.cell? ⟨gi, at_ * 4 + 3, none⟩ = some (.slice ia il ic)
theorem Ins.below {gM gC gi n ci at_ op ty res il ic : Nat} {ia : Option Addr} {w W : World} (h : Ins gM gC gi n ci at_ op ty res il ic ia w) (hb : Bl w W) : Ins gM gC gi n ci at_ op ty res il ic ia W :=
 ⟨ae h.m0 (block_lt_of_cell h.m0) hb, ae h.c0 (block_lt_of_cell h.c0) hb, ae h.i0 (block_lt_of_cell h.i0) hb, ae h.i1 (block_lt_of_cell h.i1) hb, ae h.i2 (block_lt_of_cell h.i2) hb, ae h.i3 (block_lt_of_cell h.i3) hb⟩
theorem qf (gM gC gm gfr cf gr cr k sz at_ gv rs s gi n ci op ty res il ic oc : Nat) (ia : Option Addr) (fn bk : Int) (hat : at_ < n) (hs : s ≤ 1000000) (w0 : World) (L : List As) (Q : World → Prop) (w : World) (H : Own aK w0 (kQ gM gC gm gfr cf gr cr k sz (.slice (some ⟨gfr, 0, none⟩) 1 cf) (.int .i64 s) (.int .u8 0) fn bk at_ gv rs L) w)
  (cI : ∀ W, Own aK w0 (kQ gM gC gm gfr cf gr cr k sz (.slice (some ⟨gfr, 0, none⟩) 1 cf) (.int .i64 (s + 1 : Nat)) (.int .u8 0) fn bk at_ gv rs L) W → Ins gM gC gi n ci at_ op ty res il ic ia W)
  (cQ : ∀ W, Q W → Ins gM gC gi n ci at_ op ty res il ic ia W ∧ W.cell? ⟨gM, 4, none⟩ = some (.int .u8 oc)) (hQ : ∀ W W', Q W → Bl W W' → Q W')
  (cC : ∀ W, Own aK w0 (kQ gM gC gm gfr cf gr cr k sz (.slice (some ⟨gfr, 0, none⟩) 1 cf) (.int .i64 (s + 1 : Nat)) (.int .u8 0) fn bk at_ gv rs L) W → Calls Tryz.prog 121 #[.pointer (some ⟨gM, 0, none⟩), .agg #[.int .u16 op, .int .u32 ty, .int .u32 res, .slice ia il ic]] W fun e w' => e = .returned (.tuple #[]) ∧ Q w') :
  Calls Tryz.prog 85 #[.pointer (some ⟨gM, 0, none⟩)] w fun e w' => e = .returned (.int .u8 oc) ∧ Q w' := by
 have HO := H;clear H;unfold kQ at HO cI cC;have i1 : (s : Int) ≤ 1000000 := by omega
 have i2 : (at_ : Int) < n := by omega
 clear hs hat;go_enter Tryz.func85, Tryz.ntmps85;(try simp only [yD] at HO); have kk := HO.kk;go_wp2_with (first | ((with_reducible refine ah HO ?_); clear HO; (try clear kk); intro W' HO kk));(try clear kk);replace HO := HO.drew;have hcl : ∀ W W2 : World, Ins gM gC gi n ci at_ op ty res il ic ia W → Bl W W2 → Ins gM gC gi n ci at_ op ty res il ic ia W2 := fun _ _ h k => h.below k
 have hSw := cI _ HO;refine au (S := fun W => Ins gM gC gi n ci at_ op ty res il ic ia W) (by kernel_rfl) ?_;refine ag hcl 0 ?_;refine ag hcl 1 ?_;refine ag hcl 2 ?_;refine ag hcl 3 ?_;refine ag hcl 4 ?_ (hv := fun w hw => by have q1 := hw.m0; go_simp; first | done | with_reducible rfl);refine ag hcl 5 ?_;refine ag hcl 6 ?_;refine ag hcl 7 ?_ (hv := fun w hw => by have q1 := hw.c0; go_simp; first | done | with_reducible rfl);refine ag hcl 8 ?_;refine dC [9] fun W2 hW2 => ?_
 replace HO := HO.then hW2
 clear hW2;refine dO (fun K hK => ?_);go_simp;go_at_call 116;refine (iD (HO.cell 0 2 rfl rfl)).mono ?_;rintro e W6 ⟨rfl, hn6⟩;replace HO := HO.then hn6
 clear hn6;clear hSw;have hSw := cI _ HO;refine bX hK hSw ?_;clear hK K;refine ag hcl 10 ?_;refine ag hcl 11 ?_;refine dC [12] fun W5 hW5 => ?_
 replace HO := HO.then hW5
 clear hW5;have y2 := HO.rowcell 1 2 rfl rfl;refine dO (fun K hK => ?_);go_simp;clear hSw;have hSw := cI _ HO;refine bX hK hSw ?_;clear hK K y2;refine ag hcl 13 ?_;refine ag hcl 14 ?_ (hv := fun w hw => by obtain ⟨-, -, q1, q2, q3, q4⟩ := hw; go_simp; first | done | with_reducible rfl);refine dC [15] fun W7 hW7 => ?_
 replace HO := HO.then hW7
 clear hW7;refine dO (fun K hK => ?_);go_simp;go_at_call 121;refine (cC _ HO).mono ?_;rintro e W8 ⟨rfl, hq⟩;refine bX hK (cQ _ hq).1 ?_;clear hK K HO hSw;refine kS fun W9 hW9 => ?_
 have hq9 := hQ _ _ hq hW9;have e4 := (cQ _ hq9).2;have z4 := block_lt_of_cell e4;clear hW9 hcl hq;go_wp2_with fail;go_ret;exact ⟨rfl, hq9⟩
theorem JY (gM n : Nat) (hn : n ≤ 1000000) (St : Nat → World → Prop) (w : World) (h0 : St 0 w)
  (hs : ∀ k W, k < n → St k W → Calls Tryz.prog 85 #[.pointer (some ⟨gM, 0, none⟩)] W fun e w' => e = .returned (.int .u8 0) ∧ St (k + 1) w')
  (ho : ∀ W, St n W → W.cell? ⟨gM, 4, none⟩ = some (.int .u8 0)) :
  Calls Tryz.prog 30 #[.pointer (some ⟨gM, 0, none⟩), .int .i64 n] w fun e w' => e = .returned (.int .u8 0) ∧ St n w' := by
 have HS := hid hs;have H0 := hid h0;have HE := hid ho;clear hs h0 ho;go_enter Tryz.func30, Tryz.ntmps30;go_wp2_with fail;go_loopw [6] (fun x6 wv => ∃ k : Nat, k ≤ n ∧ x6 = .int .i64 k ∧ St k wv) (fun x _ => n - (intOf x).toNat)
 case atStart => exact ⟨0, by omega, rfl, H0.out⟩
 case round =>
  obtain ⟨k, hk, rfl, hst⟩ := hrel;clear H0;by_cases hlt : k < n
  ·have cS := HS.out k _ hlt hst
   have i1 : (k : Int) < n := by omega
   have i2 : (n : Int) ≤ 1000000 := by omega
   have HK := hid hlt;clear hlt hk hst;go_wp2_with fail;refine cS.mono ?_;clear cS;rintro e w1 ⟨rfl, hst⟩;have HT := hid hst;clear hst;go_wp2_with fail;exact ⟨⟨k + 1, HK.out, by go_num, HT.out⟩, by have := HK.out; simp [intOf]; omega⟩
  ·obtain rfl : k = n := by omega
   have i1 : ¬ (((k : Nat) : Int) < k) := by omega
   have e4 := HE.out _ hst;have z4 := block_lt_of_cell e4;have HT := hid hst;clear hst hlt hk;go_wp2_with fail;go_ret;exact ⟨rfl, HT.out⟩
theorem GU (gM : Nat) (Q : World → Prop) (w : World)
  (cS : Calls Tryz.prog 85 #[.pointer (some ⟨gM, 0, none⟩)] w fun e w' => e = .returned (.int .u8 1) ∧ Q w')
  (ho : ∀ W, Q W → W.cell? ⟨gM, 4, none⟩ = some (.int .u8 1)) :
  Calls Tryz.prog 30 #[.pointer (some ⟨gM, 0, none⟩), .int .i64 1] w fun e w' => e = .returned (.int .u8 1) ∧ Q w' := by
 go_enter Tryz.func30, Tryz.ntmps30;go_wp2_with fail;refine wp_loop_rounds 1 ?_;rw [rounds_succ];go_wp2_with fail;refine cS.mono ?_;clear cS;rintro e w1 ⟨rfl, hst⟩;have e4 := ho _ hst;have z4 := block_lt_of_cell e4;have HT := hid hst;clear hst ho;go_wp2_with fail;go_ret;exact ⟨rfl, HT.out⟩
theorem AR (X gM n o : Nat) (hn : n ≤ 1000000) (Q : World → Prop) (w : World) (hX : w.cell? ⟨X, 0, none⟩ = some (.pointer (some ⟨gM, 0, none⟩)))
  (cR : Calls Tryz.prog 30 #[.pointer (some ⟨gM, 0, none⟩), .int .i64 n] w fun e w' => e = .returned (.int .u8 o) ∧ Q w') :
  Calls Tryz.prog 10 #[.pointer (some ⟨X, 0, none⟩), .int .i64 n] w fun e w' => e = .returned (.tuple #[.int .u8 o, .int .i64 0]) ∧ Q w' := by
 have i1 : (n : Int) ≤ 1000000 := by omega
 have i2 : ¬ ((n : Int) < 0) := by omega
 have i3 : ¬ ((1048576 : Int) < n) := by omega
 have zX := block_lt_of_cell hX;clear hn;go_enter Tryz.func10, Tryz.ntmps10;go_wp2_with fail;refine cR.mono ?_;clear cR;rintro e w1 ⟨rfl, hst⟩;go_wp2_with fail;go_ret2;exact ⟨rfl, hst⟩
theorem LC (n : Nat) (c d : Array Value) (w : World) : (binOp BinOp.neq 302 (.func (.func n) c d) .nilFunc).run Tryz.prog w = .ok (.bool true) w := by kernel_rfl
theorem CK (M ty res z il ic : Nat) (ia : Option Addr) (w : World)
  (cL : ∀ W, Bl w W → Calls Tryz.prog 246 #[.pointer (some ⟨M, 0, none⟩), .agg #[.int .u16 61, .int .u32 ty, .int .u32 res, .slice ia il ic]] W fun e w' => ∃ g' c', e = .returned (.slice (some ⟨g', 0, none⟩) 1 c') ∧ Own aK W [bM 0 22 1 (.slice (some ⟨g', 0, none⟩) 1 c') 1 (wV [z])] w') :
  Calls Tryz.prog 166 #[.pointer (some ⟨M, 0, none⟩), .agg #[.int .u16 61, .int .u32 ty, .int .u32 res, .slice ia il ic]] w fun e w' => (∃ g c, e = .returned (.slice (some ⟨g, 0, none⟩) 1 c) ∧ MK g z w.heap.size w') ∧ Bl w w' := by
 have HO := Own.nil w;go_enter Tryz.func166, Tryz.ntmps166;go_wp2_with (first | (((with_reducible refine aB HO ?_); intro g hg; rw [← hg.out]; clear hg); clear HO; (try clear kk); intro W' HO kk));obtain ⟨gI, rfl⟩ : ∃ q, q = g := ⟨_, rfl⟩;(try clear kk);replace HO := HO.drew;have hcl : ∀ W W2 : World, (W.cell? ⟨gI, 0, none⟩ = some (.int .u16 61)) → Bl W W2 → W2.cell? ⟨gI, 0, none⟩ = some (.int .u16 61) := fun _ _ h k => ae h (block_lt_of_cell h) k
 have hSw := HO.cell 0 0 rfl rfl;refine au (S := fun W => W.cell? ⟨gI, 0, none⟩ = some (.int .u16 61)) (by kernel_rfl) ?_;refine ag hcl 0 ?_;refine ag hcl 2 ?_;refine ag hcl 3 ?_ (hv := fun w hw => by have q1 := hw; go_simp; first | done | with_reducible rfl);refine dC [1] fun W2 hW2 => ?_
 replace HO := HO.then hW2
 clear hW2 hSw;refine dO (fun K hK => ?_);go_simp;go_at_call 206;refine (qw M _).mono ?_;rintro e W6 ⟨⟨mb, rfl, hMp⟩, hn6⟩;replace HO := HO.then hn6
 clear hn6;refine bX hK (HO.cell 0 0 rfl rfl) ?_;clear hK K;refine dC [4] fun W5 hW5 => ?_
 replace HO := HO.then hW5
 have hM5 := hMp.other (hW5.block mb hMp.lt) (fun _ _ e => e);have hl : (Instr.lookup 303 (.map (some mb)) (.int .u16 61) false).run Tryz.prog W5 = .ok (.func (.func 246) #[.pointer (some ⟨M, 0, none⟩)] #[]) W5 := by
  obtain ⟨v, hv, hq⟩ := hM5.hit BB Tryz.underlying303 Tryz.underlying26 (k := 61) (x := mF M 246) rfl;subst hv;exact hq false
 clear hW5 hMp hM5;refine dO (fun K hK => ?_);go_simp;have hSw := HO.cell 0 0 rfl rfl;refine bX hK hSw ?_;clear hK K hl;refine ag hcl 5 ?_;refine kS fun W8 hW8 => ?_
 replace HO := HO.then hW8
 clear hW8 hSw hcl;have he := LC 246;(try simp only [yD] at HO); have kk := HO.kk;go_wp2_with (first | (refine bG 73 HO Tryz.underlying73 ?_));have hB := HO.below;refine (cL _ hB).mono ?_;clear cL he;rintro e w1 ⟨g2, c2, rfl, h2⟩;go_wp2_with fail;go_ret;exact ⟨⟨g2, c2, rfl, Nat.le_trans hB.size ((h2.low _ (List.mem_of_getElem? (i := 0) rfl) g2 rfl).1.resolve_right id), h2.rowcell 0 0 rfl rfl⟩, (HO.then h2.below).below⟩
theorem sD {P : Program} (W : World) (ty : TypeId) (bm clock : Nat) (hb : W.heap[bm]? = some (.map #[] clock)) :
  (Instr.next (.pointer (some ⟨W.heap.size, 0, none⟩)) false ty).run P (W.alloc (.mapIter (some bm) clock #[] clock)) = .ok (.tuple #[.bool false]) (W.alloc (.mapIter (some bm) clock #[] clock)) := by
 have hr : (W.alloc (.mapIter (some bm) clock #[] clock)).heap[W.heap.size]? = some (.mapIter (some bm) clock #[] clock) := World.alloc_heap_new W _;have hlt := (Array.getElem?_eq_some_iff.1 hb).1;have hb2 : (W.alloc (.mapIter (some bm) clock #[] clock)).heap[bm]? = some (.map #[] clock) := (Below.heap_alloc _ _ _ hlt).trans hb;generalize W.alloc (.mapIter (some bm) clock #[] clock) = V at hr hb2 ⊢;have hc : (choose (Question.mapNext 1)).run P V = .ok 0 V := by simp [choose, Sem.run, Question.forced]
 have hg1 : (getObj W.heap.size).run P V = .ok (.mapIter (some bm) clock #[] clock) V := by simp only [getObj, Sem.run, hr]
 have hg2 : (getObj bm).run P V = .ok (.map #[] clock) V := by simp only [getObj, Sem.run, hb2]
 simp [Instr.next, Sem.run_bind, hg1, hg2, Result.andThen];simp only [show (Question.mapNext 1).forced = true from rfl, if_true];simp [Result.andThen]
theorem Di (a b clock : Nat) (w : World) (h : w.heap[b]? = some (.map #[] clock)) : Qc 160 #[.map (some a), .map (some b)] w (.tuple #[]) := by
 have hB := (Below.refl w.heap.size w).alloc (Nat.le_refl _) (.mapIter (some b) clock #[] clock);have hrg := run_range_map (P := Tryz.prog) w 199 _ _ b _ clock Tryz.underlying199 h;have hnx := fun ty => sD (P := Tryz.prog) w ty b clock h
 clear h;go_enter Tryz.func160, Tryz.ntmps160;go_wp2_with fail;refine wp_loop_rounds 1 ?_;rw [rounds_succ];go_wp2_with fail
 first
  | exact bodyPost_end (results_none rfl _ _ _) rfl ⟨rfl, hB⟩
  | exact bodyPost_ret_by (results_none rfl _ _ _) rfl ⟨rfl, hB⟩
end Go.Proofs.YtlkolghiknbbfaaGreatDoor
