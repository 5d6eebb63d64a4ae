/- Types: the one that an instruction makes: functions; all. -/
import Derived.Test.YtlkolghiknbbfaaGreatDoorAs
set_option linter.unusedVariables false
set_option linter.unusedSimpArgs false
set_option maxRecDepth 100000
set_option maxHeartbeats 4000000
namespace Go.Proofs.YtlkolghiknbbfaaGreatDoor
open Go.RowKit Go.MapKept
theorem NC (K T mb : Nat) (f : Nat → Option Ty) (i : In) (a : Option Addr) (cap : Nat) (r : Option dU) (w : World) (hK : w.cell? ⟨K, 0, none⟩ = some (.pointer (some ⟨T, 0, none⟩))) (hT : oC T mb f w) (hS : Sl 3 cz w a i.args) (hl : i.args.length ≤ 1048576) (h : jT f i r) (hop : i.op = 33) :
  Calls Tryz.prog 124 #[.pointer (some ⟨K, 0, none⟩), .agg #[.int .u16 i.op, .int .u32 i.ty, .int .u32 i.res, .slice a i.args.length cap]] w fun e w' => lJ w.heap.size r e w' ∧ Bl w w' := by
 have HO := Own.nil w;have zK := block_lt_of_cell hK;have HI := hid h;have HOP := hid hop;have HT := hid hT;have HS := hid hS;have HK := hid hK;clear h hT hS hK hop;go_enter Tryz.func124, Tryz.ntmps124;go_wp2_with (first | ((with_reducible refine aM HO ?_); clear HO; (try clear kk); intro g W' hg HO; rw [← hg.out]; clear hg; (try simp only [yT] at HO); have kk := HO.kk));have HO1 := HO;clear HO;obtain ⟨L0, hL, HO⟩ := bE HO1;clear HO1;replace HO := HO.row w.heap.size 22 1;have H0 := hid HO;clear HO;(try clear kk);obtain ⟨n, hnn⟩ : ∃ n, Hid (n = i.args.length) := ⟨_, hid rfl⟩;have hn1 : n ≤ 1048576 := by have := hnn.out; omega
 rw [← hnn.out];go_loopw [7, 9, 15] (fun x7 _ x15 wr => ∃ (k : Nat) (v : Value), k ≤ n ∧ x15 = .int .i64 k ∧ x7 = v ∧ Own aK w (bM w.heap.size 22 1 v k (om (i.args.take k)) :: L0) wr) (fun _ _ x _ => n - (intOf x).toNat)
 case atStart => exact ⟨0, .slice none 0 0, by omega, rfl, rfl, H0.out⟩
 case round =>
  obtain ⟨k, v, hk, rfl, rfl, HO⟩ := hrel;obtain ⟨av, cv, rfl, hx⟩ := HO.slice 0 rfl;clear hx H0;by_cases hlt : k < n
  ·have hkl : k < i.args.length := by have := hnn.out; omega
   obtain ⟨b, o, ha, hbl, hc⟩ := (HS.out.below cz.lasts HO.below).at_ (by omega);obtain ⟨e0, e1, e2, -, -, -⟩ := hc k hkl;have hsn := hid (iP hkl);have i2 : (k : Int) < (n : Int) := by omega
   have HLT := hid hlt;subst ha;clear hc;generalize i.args[k] = x at e0 e1 e2 hsn;clear hkl hlt;obtain ⟨kd, xn, xs⟩ := x;simp only at e0 e1 e2 hsn;(try simp only [yD] at HO); have kk := HO.kk;go_wp2_with (first | ((first | (with_reducible refine bf HO ?_; intro g hg; rw [← hg.out]; clear hg) | (with_reducible refine ah HO ?_) | (refine ay 64 HO ?_)); clear HO; (try clear kk); intro W' HO kk) | ((with_reducible refine aA ?_); refine bg HO gG 2 0 rfl rfl rfl _ _ rfl rfl rfl rfl (by simp [Value.oneCell']) (by omega) (by omega) (Nat.le_refl _) ?_; intro gm cm W' HO'; clear HO; (try clear kk); have HO := HO'; clear HO'; (try simp only [yD] at HO); have kk := HO.kk));exact ⟨⟨k + 1, _, HLT.out, by go_num, rfl, by rw [hsn.out]; exact HO.drop 2⟩, by have := HLT.out; simp [intOf]; omega⟩
  ·obtain rfl : k = n := by omega
   have i2 : ¬ ((k : Int) < k) := by omega
   rw [hL.out, List.take_of_length_le (by have := hnn.out; omega)] at HO;(try simp only [yD] at HO); have kk := HO.kk;go_upto_region 9 with (first | ((with_reducible refine aM HO ?_); clear HO; (try clear kk); intro g W' hg HO; rw [← hg.out]; clear hg; (try simp only [yT] at HO); have kk := HO.kk))
   try simp only [Act.put]
   (try clear kk);have hi := HI.out;clear HI hL i2 hlt hk
   cases hi with
   | other i h => exact absurd h (by rw [HOP.out]; decide)
   | void ty res => exact absurd HOP.out (show ¬ ((19 : Nat) = 33) by decide)
   | int ty res x y h hb => exact absurd HOP.out (show ¬ ((21 : Nat) = 33) by decide)
   | vec ty res x y hk hn hd => exact absurd HOP.out (show ¬ ((23 : Nat) = 33) by decide)
   | ptr ty res x y hs => exact absurd HOP.out (show ¬ ((32 : Nat) = 33) by decide)
   | fn ty res x hk hs =>
    dsimp only at HO hnn ⊢
    obtain ⟨xk, xn, xs⟩ := x;simp only at hk hs;obtain rfl : k = 1 := hnn.out;obtain ⟨g3, rfl, hlo, hlt3, hcap3, hc3⟩ := HO.slice2 1 rfl (by omega);have r0 : W'.cell? ⟨g3, 0, none⟩ = some (.int .u32 xn) := hc3 0 _ rfl;clear hc3;have cF := uT T mb f xn g3 cv W' (HT.out.below HO.below) hk hs r0;have HKK : W'.cell? ⟨K, 0, none⟩ = some (.pointer (some ⟨T, 0, none⟩)) := (HO.old K 0 zK).trans HK.out;(try simp only [yD] at HO); have kk := HO.kk;(try replace kk := kk.2);go_wp2_with (first | ((first | (with_reducible refine bf HO ?_; intro g hg; rw [← hg.out]; clear hg) | (with_reducible refine ah HO ?_) | (refine ay 227 HO ?_)); clear HO; (try clear kk); intro W' HO kk) | (refine bG 227 HO Tryz.underlying227 ?_) | (go_at_call 171; (with_reducible refine cF.mono ?_); rintro e w1 ⟨rfl, hn⟩; replace HO := HO.then hn; clear hn; (try clear kk); (try simp only [yD] at HO); have kk := HO.kk));refine bodyPost_ret_by (dG rfl _ _ _ 227 #[.int .u8 8, .int .i64 0, .int .i64 0, .bool false, .int .u32 0, .int .u32 0, .int .i64 0, .slice (some ⟨g3, 0, none⟩) 1 cv] _ _ rfl (HO.blk 2 rfl) Tryz.underlying227 rfl iW) rfl ?_
    exact ⟨⟨fun h => (by cases h), fun d hd => by cases hd; exact ⟨⟨8, 0, 0, false, 0, 0, 0, some ⟨g3, 0, none⟩, 1, cv⟩, rfl, ⟨rfl, rfl, rfl, rfl, rfl, rfl, rfl, rfl, fun _ => ⟨g3, 0, rfl, hlo, fun i hi => by
     obtain rfl : i = 0 := by simpa using hi
     exact HO.rowcell 1 0 rfl rfl⟩⟩⟩⟩, HO.below⟩
theorem Ml (K T mb : Nat) (f : Nat → Option Ty) (i : In) (a : Option Addr) (cap : Nat) (r : Option dU) (w : World) (hK : w.cell? ⟨K, 0, none⟩ = some (.pointer (some ⟨T, 0, none⟩))) (hT : oC T mb f w) (hS : Sl 3 cz w a i.args) (hl : i.args.length ≤ 1048576) (h : jT f i r) :
  Calls Tryz.prog 124 #[.pointer (some ⟨K, 0, none⟩), .agg #[.int .u16 i.op, .int .u32 i.ty, .int .u32 i.res, .slice a i.args.length cap]] w fun e w' => lJ w.heap.size r e w' ∧ Bl w w' := by
 have h2 := h
 cases h2 with
 | other i h' => exact GK K T mb f _ a cap _ w hK hT hS hl h h'
 | void => exact Ik K T mb f _ a cap _ w hK hT hS hl h rfl
 | int => exact Mc K T mb f _ a cap _ w hK hT hS hl h rfl
 | vec => exact MC K T mb f _ a cap _ w hK hT hS hl h rfl
 | ptr => exact Ls K T mb f _ a cap _ w hK hT hS hl h rfl
 | fn => exact NC K T mb f _ a cap _ w hK hT hS hl h rfl
end Go.Proofs.YtlkolghiknbbfaaGreatDoor
namespace Go.Proofs.YtlkolghiknbbfaaGreatDoor
open Go.RowKit Go.MapKept
def Ou (s : ByteArray) : Value := .string s
theorem Kn : Keys (.string) Ou := ⟨fun k => trivial, fun k k' h => by unfold Ou at h; injection h⟩
def lF (i : In) : Nat → ByteArray
 | 0 => iM i.op
 | k + 1 => lF i k ++ (⟨#[32]⟩ ++ iM (i.args.getD k wH).n)
def keyOf (i : In) : ByteArray := lF i i.args.length
theorem nU (n : Nat) : (iM n).size ≤ 2 := by
 unfold iM
 split <;> rw [ByteArray.size_extract] <;> omega
theorem Ci (i : In) (k : Nat) : (lF i k).size ≤ 2 + 3 * k := by
 induction k with
 | zero => exact nU _
 | succ k ih =>
  have := nU (i.args.getD k wH).n;simp only [lF, ByteArray.size_append];have h1 : (⟨#[32]⟩ : ByteArray).size = 1 := rfl;omega
theorem Oc (W : World) : (zeroValue 3).run Tryz.prog W = .ok (.int .i64 0) W := by kernel_rfl
abbrev sA (b : Nat) (f : ByteArray → Option Nat) : As := iO (.string) Ou encI b f
theorem Gp (K sb : Nat) (sf : ByteArray → Option Nat) (i : In) (a : Option Addr) (cap : Nat) (w : World) (hK : w.cell? ⟨K, 2, none⟩ = some (.map (some sb))) (hm : (sA sb sf).holds w) (hne : K ≠ sb) (hS : Sl 3 cz w a i.args) (hl : i.args.length ≤ 1048576) (ho : i.op < 100) (h28 : i.op ≠ 28) (h30 : i.op ≠ 30) (ha : ∀ k (h : k < i.args.length), i.args[k].n < 100) (hf : sf (keyOf i) = none) (hab : 0 < i.args.length → ∀ b o, a = some ⟨b, o, none⟩ → b ≠ sb) :
  Calls Tryz.prog 125 #[.pointer (some ⟨K, 0, none⟩), .agg #[.int .u16 i.op, .int .u32 i.ty, .int .u32 i.res, .slice a i.args.length cap]] w fun e w' => e = .returned (.bool false) ∧ Step (sA sb sf) (sA sb (dJ sf (keyOf i) 1)) w w' := by
 have HO := Own.start (A := sA sb sf) hm (fun k hk => by cases hk; exact Mp.lt hm);have hmm : Hid ((sA sb sf).holds w) := hid hm;have HS := hid hS;have HA := hid ha;have HF := hid hf;have HAB := hid hab;have c1 := fun W => zk i.op W ho
 have k0eq := hid (show lF i 0 = iM i.op from rfl);rw [← k0eq.out] at c1;have zK := block_lt_of_cell hK;have HK := hid hK;have t1 : ((i.op : Int) == 28) = false := by rw [beq_eq_false_iff_ne]; omega
 have t2 : ((i.op : Int) == 30) = false := by rw [beq_eq_false_iff_ne]; omega
 obtain ⟨n, hnn⟩ : ∃ n, Hid (n = i.args.length) := ⟨_, hid rfl⟩;have hn1 : n ≤ 1048576 := by have := hnn.out; omega
 obtain ⟨key, hkey⟩ : ∃ q, Hid (q = keyOf i) := ⟨_, hid rfl⟩;rw [← hnn.out, ← hkey.out];have hb : (i.op : Int) < 100 := by omega
 clear hS ha hf hm hK h28 h30 ho hl hab;go_enter Tryz.func125, Tryz.ntmps125;go_wp2_with (first | ((with_reducible refine aM HO ?_); clear HO; (try clear kk); intro g W' hg HO; rw [← hg.out]; clear hg; (try simp only [yT] at HO); have kk := HO.kk) | (go_at_call 172; (with_reducible refine (c1 _).mono ?_); rintro e w1 ⟨rfl, rfl⟩));clear c1 t1 t2 hb;have HO1 := HO;clear HO;obtain ⟨L0, hL, HO⟩ := bE HO1;clear HO1;have H0 := hid HO;clear HO;(try clear kk);go_loopw [5, 7, 23] (fun x5 _ x23 wr => ∃ k : Nat, k ≤ n ∧ x23 = .int .i64 k ∧ x5 = .string (lF i k) ∧ Own (sA sb sf).dom w L0 wr) (fun _ _ x _ => n - (intOf x).toNat)
 case atStart => exact ⟨0, by omega, rfl, rfl, H0.out⟩
 case round =>
  obtain ⟨k, hk, rfl, rfl, HO⟩ := hrel;clear H0;by_cases hlt : k < n
  ·have hkl : k < i.args.length := by have := hnn.out; omega
   have hnx := HA.out k hkl;obtain ⟨b, o, ha, hbl0, hc0⟩ := HS.out.at_ (by omega);have hnb := HAB.out (by omega) b o ha;have hq := hc0 k hkl;have e0 := HO.oldX hq.kind hnb;have e1 := HO.oldX hq.n hnb;have e2 := HO.oldX hq.s hnb;have zb : b < wr.heap.size := Nat.lt_of_lt_of_le hbl0 HO.size;have hks := hid (show lF i (k + 1) = lF i k ++ (⟨#[32]⟩ ++ iM i.args[k].n) by simp only [lF]; rw [List.getD_eq_getElem?_getD, List.getElem?_eq_getElem hkl]; rfl);have c2 := fun W => zk i.args[k].n W hnx
   have z1 := Ci i k;have z2 := nU i.args[k].n;have q1 : (⟨#[32]⟩ : ByteArray).size + (iM i.args[k].n).size ≤ 9223372036854775807 := by have : (⟨#[32]⟩ : ByteArray).size = 1 := rfl; omega
   have q2 : (lF i k).size + (⟨#[32]⟩ ++ iM i.args[k].n : ByteArray).size ≤ 9223372036854775807 := by rw [ByteArray.size_append]; have : (⟨#[32]⟩ : ByteArray).size = 1 := rfl; omega
   have i2 : (k : Int) < (n : Int) := by omega
   have HLT := hid hlt;have hnx2 : (i.args[k].n : Int) < 100 := by omega
   subst ha;clear hc0 hq hnb hnx z1 z2;generalize iM i.args[k].n = s2 at c2 hks q1 q2;generalize i.args[k] = x at e0 e1 e2 c2 hnx2;clear hkl hlt;obtain ⟨kd, xn, xs⟩ := x;simp only at e0 e1 e2 c2 hnx2;generalize lF i k = s1 at hks q2 ⊢;(try simp only [yD] at HO); have kk := HO.kk;go_wp2_with (first | ((first | (with_reducible refine bf HO ?_; intro g hg; rw [← hg.out]; clear hg) | (with_reducible refine ah HO ?_) | (refine ay 64 HO ?_)); clear HO; (try clear kk); intro W' HO kk) | (go_at_call 172; (with_reducible refine (c2 _).mono ?_); rintro e w1 ⟨rfl, rfl⟩));exact ⟨⟨k + 1, HLT.out, by go_num, by rw [hks.out], HO.drop 1⟩, by have := HLT.out; simp [intOf]; omega⟩
  ·obtain rfl : k = n := by omega
   have i2 : ¬ ((k : Int) < k) := by omega
   have hk2 := hid (show lF i k = key by rw [hkey.out, hnn.out]; rfl);rw [hk2.out];rw [hL.out] at HO;have HF2 : sf key = none := by rw [hkey.out]; exact HF.out
   have hKK : wr.cell? ⟨K, 2, none⟩ = some (.map (some sb)) := HO.oldX HK.out hne;have hl1 : (Instr.lookup 221 (.map (some sb)) (.string key) false).run Tryz.prog wr = .ok (.int .i64 0) wr := Mp.miss (HO.at 1 rfl) Kn Tryz.underlying221 Tryz.underlying9 HF2 (Oc wr) false;obtain ⟨o2, hup, hm2⟩ := Mp.put (HO.at 1 rfl) Kn Tryz.underlying221 Tryz.underlying9 key (.int .i64 1) 1 (fun _ _ _ h => h) (fun _ => rfl);have hup2 : (Instr.mapUpdate 221 (.map (some sb)) (.string key) (.int .i64 1)).run Tryz.prog wr = .ok () (aT wr sb o2) := hup;have HO2 := HO.map 1 o2 rfl hm2;simp only [yT] at HO2;have hl2 : (Instr.lookup 221 (.map (some sb)) (.string key) false).run Tryz.prog (aT wr sb o2) = .ok (.int .i64 1) (aT wr sb o2) := by
    obtain ⟨v, hv, hr⟩ := Mp.hit (HO2.at 1 rfl) Kn Tryz.underlying221 Tryz.underlying9 (k := key) (x := 1) (if_pos rfl);subst hv;exact hr false
   have hKK2 : (aT wr sb o2).cell? ⟨K, 2, none⟩ = some (.map (some sb)) := HO2.oldX HK.out hne;have HOO := hid HO2;clear HF2 hup hm2 HO HO2 hL hk hlt;go_wp2_with fail;go_ret;exact ⟨rfl, (HOO.out.drop 1).done⟩
end Go.Proofs.YtlkolghiknbbfaaGreatDoor
