/- What record of the reference does. -/
import Derived.Test.YtpciankfpagnhaaJ14
import Derived.Test.YtpciankfpagnhaaJ8
import Derived.Test.YtpciankfpagnhaaM1
import Derived.Test.YtpciankfpagnhaaJ10
import Derived.Test.YtpciankfpagnhaaJ13
namespace Go.Proofs.Ytpciankfpagnhaa
open Go.RowKit

def RecRes (S : Nat → Prop) (r : Option (List UInt8 × Nat)) (at_ : Nat) (w : World) (e : Ending) (w' : World) : Prop :=
  Ext w w' ∧ match r with
    | none => e = .returned (.tuple #[.slice none 0 0, .int .i64 0])
    | some (b, k) => ∃ v, e = .returned (.tuple #[v, .int .i64 ((k - at_ : Nat) : Int)]) ∧ Bs S w' v b
theorem osl_row0B {base : Nat} {S : Nat → Prop} {w : World} (hb : base ≤ w.heap.size) (hS : ¬ S w.heap.size) : OSl base 5 1 eByte S (w.alloc (.cells #[] 5)) (.slice (some ⟨w.heap.size, 0, none⟩) 0 0) [] := OSl.lit0 _ _ _ _ _ _ hb hS

set_option maxRecDepth 100000 in
set_option maxHeartbeats 4000000 in
theorem record_ok {S S2 : Nat → Prop} (w : World) (v : Value) (sl : List (List UInt8)) (k : Nat) (h : Bss S2 w v sl) (hk : k ≤ sl.length) (hl2 : sl.length ≤ 4096) (h128 : ∀ s ∈ sl, s.length = 128) (hS : ∀ k, S k → k < w.heap.size) :
    Calls Try.prog 84 #[v, .int .i64 (k : Int)] w (RecRes S (recAt sl k) k w) := by
  obtain ⟨aS, cS, rfl, hcS, hmS⟩ := h.open
  have HS := Lib.hid (h.more etBs (S' := From w.heap.size) (fun _ hk => .inr hk)); clear h
  have H128 := Lib.hid h128; clear h128
  have HSS := Lib.hid hS; clear hS
  go_enter Try.func84, Try.ntmps84
  go_wp2_with fail
  go_loopw [6, 7] (fun bvv nv wq => ∃ (m n : Nat) (acc : List UInt8), m = k + n ∧ m ≤ sl.length ∧ nv = .int .i64 (n : Int) ∧ OSl w.heap.size 5 1 eByte (fun _ => False) wq bvv acc ∧ Ext w wq ∧
        recAt sl k = recGo (gen (sl.getD k [])) m (decide (m = k)) acc (sl.drop m) ∧ acc.length ≤ 112 * n) (fun _ nv _ => sl.length - (intOf nv).toNat)
  case atStart => exact ⟨k, 0, [], rfl, hk, rfl, osl_row0B (Nat.le_refl _) (fun h => h), (Ext.refl w).alloc _, by simp [recAt], by simp⟩
  case round =>
    obtain ⟨m, n, acc, hmk, hml, rfl, hO, hE2, hrec, hacc⟩ := hrel
    have hadd : (k : Int) + (n : Int) = (m : Int) := by omega
    have hw1 : IntKind.i64.wrap ((k : Int) + (n : Int)) = (m : Int) := by rw [hadd]; exact wraps_i64 _ (by omega) (by omega)
    have HADD := Lib.hid hadd; clear hadd
    have HACC := Lib.hid hacc; clear hacc
    have HMK0 := Lib.hid hmk; clear hmk
    by_cases hlt : m < sl.length
    case neg =>
      have hge : ¬ ((m : Int) < sl.length) := by omega
      have HR0 := Lib.hid hrec; clear hrec
      go_wp2_with fail
      refine bodyPost_ret (v := .tuple #[.slice none 0 0, .int .i64 0]) (by simp [results, Try.results84, go_sem]) rfl ?_
      obtain rfl : m = sl.length := by omega
      refine ⟨hE2, ?_⟩
      rw [HR0.out, List.drop_length]; rfl
    have hklt : k < sl.length := by have := HMK0.out; omega
    have hHS : Bss (From w.heap.size) wr (.slice aS sl.length cS) sl := Bss.keep HS.out hE2
    obtain ⟨bl, ol, vd, rfl, hb1, c1, hv⟩ := hHS.elem hlt
    obtain ⟨b2, o2, vd2, e2, hb2, c2, hv2⟩ := hHS.elem hklt
    cases e2
    have h128 := H128.out _ (List.getElem_mem hlt)
    have h128' := H128.out _ (List.getElem_mem hklt)
    have hgk : sl.getD k [] = sl[k] := by rw [List.getD_eq_getElem?_getD, List.getElem?_eq_getElem hklt]; rfl
    have hdm : sl.drop m = sl[m] :: sl.drop (m + 1) := List.drop_eq_getElem_cons hlt
    have hgmk : m = k → gen sl[m] = gen sl[k] := fun e => by subst e; rfl
    rw [hdm, hgk] at hrec
    clear hdm hHS
    have HG := Lib.hid hgk; clear hgk
    have HMK := Lib.hid hgmk; clear hgmk
    unfold recGo at hrec
    have HREC := Lib.hid hrec; clear hrec
    have HSL := Lib.hid h128; clear h128
    have HSL' := Lib.hid h128'; clear h128'
    generalize sl[m] = s at *
    generalize sl[k] = sA at *
    obtain ⟨aS0, cs, rfl, hcs, hms⟩ := hv.open
    obtain ⟨aA, cA, rfl, hcA, hmA⟩ := hv2.open
    obtain ⟨b, o, rfl, hbb, x10⟩ := hv.elem (k := 10) (by have := HSL.out; omega)
    obtain ⟨b', o', e', -, x11⟩ := hv.elem (k := 11) (by have := HSL.out; omega)
    cases e'
    have hx10 : s.getD 10 0 = s[10]'(by have := HSL.out; omega) := by rw [List.getD_eq_getElem?_getD, List.getElem?_eq_getElem]; rfl
    have hx11 : s.getD 11 0 = s[11]'(by have := HSL.out; omega) := by rw [List.getD_eq_getElem?_getD, List.getElem?_eq_getElem]; rfl
    have HX10 := Lib.hid hx10; clear hx10
    have HX11 := Lib.hid hx11; clear hx11
    generalize s[10]'(by have := HSL.out; omega) = x at *
    generalize s[11]'(by have := HSL.out; omega) = y at *
    obtain ⟨b3, o3, rfl, -, -⟩ := hv2.elem (k := 0) (by have := HSL'.out; omega)
    have HV := Lib.hid hv; clear hv
    have HV2 := Lib.hid hv2; clear hv2
    have hmi : (m : Int) < sl.length := by omega
    have hm0 : (0 : Int) ≤ m := by omega
    have HO := Lib.hid hO; clear hO
    go_upto_region 6 with fail
    by_cases q1 : goodS s m = true
    case neg =>
      have q1' : goodS s m = false := by simpa using q1
      have HQ1 := Lib.hid q1; clear q1
      refine reg84_6a _ _ _ _ _ _ _ _ _ _ _ _ _ _ _ _ _ _ _ _ _ _ _ _ _ _ _ _ _ _ _ _ _ _ _ _ _ _ _ _ _ _ _ _ _ _ _ _ _ _ _ _ _ _ _ _ _ _ _ _ _ _ _ _ _ _ _ _ _ wr n m k b o s.length cs s HV.out (by omega) HADD.out HSL.out q1' ?_
      intro v0 v1 v2 v3 v4 v5 v6 v7 v8 v9 v10 v11 v12 v13 v14 v15 v16 v17 v18 v19 v20 v21 v22 v23 v24 v25 v26 v27 v28 v29 v30 wx hxx
      dsimp only
      go_wp2_with fail
      refine bodyPost_ret (v := .tuple #[.slice none 0 0, .int .i64 0]) (by simp [results, Try.results84, go_sem]) rfl ?_
      refine ⟨hE2.trans hxx, ?_⟩
      rw [HREC.out, if_neg (by simp [HQ1.out])]
    have HQ1 := Lib.hid q1
    have hbg : ((x.toNat : Int) % 2 == 1) = begS s := by
      unfold begS; rw [HX10.out]
      rcases Nat.mod_two_eq_zero_or_one x.toNat with h | h
      · have : (x.toNat : Int) % 2 = 0 := by omega
        rw [this, h]; rfl
      · have : (x.toNat : Int) % 2 = 1 := by omega
        rw [this, h]; rfl
    have hfs : ((n : Int) == 0) = decide (m = k) := by
      by_cases h : n = 0
      · have h' : m = k := by have := HMK0.out; omega
        subst h; simp [h']
      · have : ¬ (n : Int) = 0 := by omega
        have h' : ¬ m = k := by have := HMK0.out; omega
        simp [h', h]
    have HBG := Lib.hid hbg; clear hbg
    have HFS := Lib.hid hfs; clear hfs
    by_cases q2 : (begS s == decide (m = k)) = true
    case neg =>
      have q2' : (begS s == decide (m = k)) = false := by simpa using q2
      have HQ2 := Lib.hid q2; clear q2
      refine reg84_6b _ _ _ _ _ _ _ _ _ _ _ _ _ _ _ _ _ _ _ _ _ _ _ _ _ _ _ _ _ _ _ _ _ _ _ _ _ _ _ _ _ _ _ _ _ _ _ _ _ _ _ _ _ _ _ _ _ _ _ _ _ _ _ _ _ _ _ _ _ wr n m k b o s.length cs x (begS s) (decide (m = k)) s HV.out (by omega) HADD.out HSL.out q1 HSL.out x10 HBG.out HFS.out q2' ?_
      intro v0 v1 v2 v3 v4 v5 v6 v7 v8 v9 v10 v11 v12 v13 v14 v15 v16 v17 v18 v19 v20 v21 v22 v23 v24 v25 v26 v27 v28 v29 v30 wx hxx
      dsimp only
      go_wp2_with fail
      refine bodyPost_ret (v := .tuple #[.slice none 0 0, .int .i64 0]) (by simp [results, Try.results84, go_sem]) rfl ?_
      refine ⟨hE2.trans hxx, ?_⟩
      rw [HREC.out, if_neg (by simp only [HQ1.out, Bool.true_and, Bool.and_eq_true, not_and]; intro h; exact absurd h HQ2.out)]
    have HQ2 := Lib.hid q2
    by_cases qn : n = 0
    case pos =>
      refine reg84_6c _ _ _ _ _ _ _ _ _ _ _ _ _ _ _ _ _ _ _ _ _ _ _ _ _ _ _ _ _ _ _ _ _ _ _ _ _ _ _ _ _ _ _ _ _ _ _ _ _ _ _ _ _ _ _ _ _ _ _ _ _ _ _ _ _ _ _ _ _ wr n m k b o s.length cs x (begS s) (decide (m = k)) s HV.out (by omega) HADD.out HSL.out q1 HSL.out x10 HBG.out HFS.out q2 qn ?_
      have hgood : (goodS s m && (begS s == decide (m = k)) && decide (gen s = gen sA)) = true := by
        rw [q1, q2, HMK.out (by have := HMK0.out; omega)]; simp
      clear qn
      intro v0 v1 v2 v3 v4 v5 v6 v7 v8 v9 v10 v11 v12 v13 v14 v15 v16 v17 v18 v19 v20 v21 v22 v23 v24 v25 v26 v27 v28 v29 v30 wx hxx
      dsimp only
      have hE3 := hE2.trans hxx
      clear hE2
      have HV3 := Lib.hid (HV.out.keep hxx); clear HV
      have hO3 := HO.out.keep etByte hxx; clear HO
      have x10' := hxx.cell x10
      have x11' := hxx.cell x11
      clear x10 x11 c1 c2 HV2 hb1 hb2
      have hyl : y.toNat ≤ 112 ∧ x.toNat ≤ 3 := by
        have := HQ1.out
        rw [goodS_def, HX10.out, HX11.out] at this
        simp only [Bool.and_eq_true, decide_eq_true_eq] at this
        exact ⟨this.1.1.1.2, this.1.1.1.1.2⟩
      have hps := HV3.out.sub 12 y.toNat (cs - 12) (by have := HSL.out; omega) (by have := HSL.out; omega) (by unfold maxLen; omega)
      have hpe : pieceS s = (s.drop 12).take y.toNat := by unfold pieceS; rw [HX11.out]
      rw [← hpe] at hps
      have hpl : (pieceS s).length = y.toNat := by rw [hpe, List.length_take, List.length_drop]; have := HSL.out; omega
      have HPS := Lib.hid hps; clear hps
      have HPE := Lib.hid hpe; clear hpe
      obtain ⟨a5, c5, rfl, hc5, hm5⟩ := (hO3.sl etByte).open
      have hnv : ∀ gg, (Value.slice a5 acc.length c5).ownBlock = some gg → w.heap.size ≤ gg := fun gg hgg' => (hO3.block gg hgg').1
      have HO3 := Lib.hid hO3; clear hO3
      have hy112 : y.toNat ≤ 112 := hyl.1
      have hy0 : (y.toNat : Int) ≤ 112 := by omega
      have hwr1 : IntKind.i64.wrap (12 + (y.toNat : Int)) = 12 + (y.toNat : Int) := wraps_i64 _ (by omega) (by omega)
      have hyt : (12 + (y.toNat : Int)).toNat - 12 = y.toNat := by omega
      have hsl1 : (128 : Int) ≤ s.length := by have := HSL.out; omega
      have hyc : (12 + (y.toNat : Int)) ≤ cs := by omega
      have hc12 : ¬ cs = 12 := by omega
      have hy1 : (12 : Int) ≤ 12 + (y.toNat : Int) := by omega
      have h10 : (10 : Int) < s.length := by omega
      have h11 : (11 : Int) < s.length := by omega
      go_wp2_with (at_builtin; go_loud (refine wpList_append_osl (S := fun _ => False) atB etByte rfl _ _ rfl w.heap.size _ _ acc (pieceS s) rfl rfl HO3.out (HPS.out.wo hnv) (fun _ h => h.elim) (by have := HACC.out; have := HMK0.out; omega) (by have := HACC.out; have := HMK0.out; omega) hE3.size ?_))
      rintro v8 w8 ho8 hg8
      have hE8 : Ext w w8 := hE3.grown hg8 hnv
      have hm8 : Mem (From w.heap.size) wx w8 := ⟨hg8.size, fun kk h1 h2 => hg8.block kk h1 (fun e => h2 (hnv kk e.symm))⟩
      have x10 := hm8.cell hbb.2 x10'
      clear x11' x10' hg8 hm8 HV3 HPS HO3 hE3 hnv
      have HO8 := Lib.hid ho8; clear ho8
      have hrec2 := HREC.out
      rw [if_pos hgood] at hrec2
      have hend : endS s = decide (2 ≤ x.toNat) := by unfold endS; rw [HX10.out]
      rw [hend] at hrec2
      have HGOOD := Lib.hid hgood; clear hgood hend
      obtain ⟨a8, c8, rfl, hc8, hmm8⟩ := (HO8.out.sl etByte).open
      obtain ⟨n8, hn8⟩ : ∃ n8, (acc ++ pieceS s).length = n8 := ⟨_, rfl⟩
      have hn112 : n8 ≤ 112 * (n + 1) := by rw [← hn8, List.length_append]; have := HACC.out; omega
      rw [hn8] at HO8 hc8 ⊢
      have HN8 := Lib.hid hn8; clear hn8
      have HN112 := Lib.hid hn112; clear hn112
      have hwn : IntKind.i64.wrap ((n : Int) + 1) = (n : Int) + 1 := wraps_i64 _ (by omega) (by have := HMK0.out; omega)
      by_cases q5 : 2 ≤ x.toNat
      · rw [decide_eq_true q5, if_pos rfl] at hrec2
        have HREC2 := Lib.hid hrec2; clear hrec2
        have hq5 : (2 : Int) ≤ x.toNat := by omega
        go_wp2_with fail
        refine bodyPost_ret (v := .tuple #[.slice a8 n8 c8, .int .i64 ((n : Int) + 1)]) (by simp [results, Try.results84, go_sem]) rfl ?_
        refine ⟨hE8, ?_⟩
        rw [HREC2.out]
        exact ⟨_, by rw [show ((m + 1 - k : Nat) : Int) = (n : Int) + 1 by have := HMK0.out; omega], (HO8.out.toS HSS.out).sl etByte⟩
      · rw [decide_eq_false q5, if_neg (by decide)] at hrec2
        have HREC2 := Lib.hid hrec2; clear hrec2
        have hq5 : (x.toNat : Int) < 2 := by omega
        go_wp2_with fail
        go_roundw
        case rel => exact ⟨m + 1, n + 1, acc ++ pieceS s, by have := HMK0.out; omega, by omega, by go_num, HO8.out, hE8, by
          rw [HREC2.out, HG.out, decide_eq_false (by have := HMK0.out; omega)], by rw [HN8.out]; exact HN112.out⟩
        case measure => simp [intOf]; have := HMK0.out; omega
    by_cases q3 : gen s = gen sA
    case neg =>
      have q3' : ((gen s : Int) != (gen sA : Int)) = true := by simp; omega
      have HQ3 := Lib.hid q3; clear q3
      refine reg84_6d _ _ _ _ _ _ _ _ _ _ _ _ _ _ _ _ _ _ _ _ _ _ _ _ _ _ _ _ _ _ _ _ _ _ _ _ _ _ _ _ _ _ _ _ _ _ _ _ _ _ _ _ _ _ _ _ _ _ _ _ _ _ _ _ _ _ _ _ wr n m k b o s.length cs bl ol sl.length cS b3 o3 sA.length cA (gen s) (gen sA) x (begS s) (decide (m = k)) true s sA HV.out (by omega) HADD.out HSL.out q1 HSL.out x10 HBG.out HFS.out q2 (by omega) hcs hms rfl rfl HV2.out HSL'.out HSL'.out hcA hmA c2 hklt q3' ?_
      intro v0 v1 v2 v3 v4 v5 v6 v7 v8 v9 v10 v11 v12 v13 v14 v15 v16 v17 v18 v19 v20 v21 v22 v23 v24 v25 v26 v27 v28 v29 v30 wx hxx
      dsimp only
      go_wp2_with fail
      refine bodyPost_ret (v := .tuple #[.slice none 0 0, .int .i64 0]) (by simp [results, Try.results84, go_sem]) rfl ?_
      refine ⟨hE2.trans hxx, ?_⟩
      rw [HREC.out, if_neg (by simp only [Bool.and_eq_true, decide_eq_true_eq, not_and]; intro _ h; exact absurd h HQ3.out)]
    case pos =>
      have q3' : ((gen s : Int) != (gen sA : Int)) = false := by simp; omega
      have hgood : (goodS s m && (begS s == decide (m = k)) && decide (gen s = gen sA)) = true := by
        rw [q1, q2, decide_eq_true q3]; rfl
      refine reg84_6d _ _ _ _ _ _ _ _ _ _ _ _ _ _ _ _ _ _ _ _ _ _ _ _ _ _ _ _ _ _ _ _ _ _ _ _ _ _ _ _ _ _ _ _ _ _ _ _ _ _ _ _ _ _ _ _ _ _ _ _ _ _ _ _ _ _ _ _ wr n m k b o s.length cs bl ol sl.length cS b3 o3 sA.length cA (gen s) (gen sA) x (begS s) (decide (m = k)) false s sA HV.out (by omega) HADD.out HSL.out q1 HSL.out x10 HBG.out HFS.out q2 (by omega) hcs hms rfl rfl HV2.out HSL'.out HSL'.out hcA hmA c2 hklt q3' ?_
      intro v0 v1 v2 v3 v4 v5 v6 v7 v8 v9 v10 v11 v12 v13 v14 v15 v16 v17 v18 v19 v20 v21 v22 v23 v24 v25 v26 v27 v28 v29 v30 wx hxx
      dsimp only
      have hE3 := hE2.trans hxx
      clear hE2
      have HV3 := Lib.hid (HV.out.keep hxx); clear HV
      have hO3 := HO.out.keep etByte hxx; clear HO
      have x10' := hxx.cell x10
      have x11' := hxx.cell x11
      clear x10 x11 c1 c2 HV2 hb1 hb2
      have hyl : y.toNat ≤ 112 ∧ x.toNat ≤ 3 := by
        have := HQ1.out
        rw [goodS_def, HX10.out, HX11.out] at this
        simp only [Bool.and_eq_true, decide_eq_true_eq] at this
        exact ⟨this.1.1.1.2, this.1.1.1.1.2⟩
      have hps := HV3.out.sub 12 y.toNat (cs - 12) (by have := HSL.out; omega) (by have := HSL.out; omega) (by unfold maxLen; omega)
      have hpe : pieceS s = (s.drop 12).take y.toNat := by unfold pieceS; rw [HX11.out]
      rw [← hpe] at hps
      have hpl : (pieceS s).length = y.toNat := by rw [hpe, List.length_take, List.length_drop]; have := HSL.out; omega
      have HPS := Lib.hid hps; clear hps
      have HPE := Lib.hid hpe; clear hpe
      obtain ⟨a5, c5, rfl, hc5, hm5⟩ := (hO3.sl etByte).open
      have hnv : ∀ gg, (Value.slice a5 acc.length c5).ownBlock = some gg → w.heap.size ≤ gg := fun gg hgg' => (hO3.block gg hgg').1
      have HO3 := Lib.hid hO3; clear hO3
      have hy112 : y.toNat ≤ 112 := hyl.1
      have hy0 : (y.toNat : Int) ≤ 112 := by omega
      have hwr1 : IntKind.i64.wrap (12 + (y.toNat : Int)) = 12 + (y.toNat : Int) := wraps_i64 _ (by omega) (by omega)
      have hyt : (12 + (y.toNat : Int)).toNat - 12 = y.toNat := by omega
      have hsl1 : (128 : Int) ≤ s.length := by have := HSL.out; omega
      have hyc : (12 + (y.toNat : Int)) ≤ cs := by omega
      have hc12 : ¬ cs = 12 := by omega
      have hy1 : (12 : Int) ≤ 12 + (y.toNat : Int) := by omega
      have h10 : (10 : Int) < s.length := by omega
      have h11 : (11 : Int) < s.length := by omega
      go_wp2_with (at_builtin; go_loud (refine wpList_append_osl (S := fun _ => False) atB etByte rfl _ _ rfl w.heap.size _ _ acc (pieceS s) rfl rfl HO3.out (HPS.out.wo hnv) (fun _ h => h.elim) (by have := HACC.out; have := HMK0.out; omega) (by have := HACC.out; have := HMK0.out; omega) hE3.size ?_))
      rintro v8 w8 ho8 hg8
      have hE8 : Ext w w8 := hE3.grown hg8 hnv
      have hm8 : Mem (From w.heap.size) wx w8 := ⟨hg8.size, fun kk h1 h2 => hg8.block kk h1 (fun e => h2 (hnv kk e.symm))⟩
      have x10 := hm8.cell hbb.2 x10'
      clear x11' x10' hg8 hm8 HV3 HPS HO3 hE3 hnv
      have HO8 := Lib.hid ho8; clear ho8
      have hrec2 := HREC.out
      rw [if_pos hgood] at hrec2
      have hend : endS s = decide (2 ≤ x.toNat) := by unfold endS; rw [HX10.out]
      rw [hend] at hrec2
      have HGOOD := Lib.hid hgood; clear hgood hend
      obtain ⟨a8, c8, rfl, hc8, hmm8⟩ := (HO8.out.sl etByte).open
      obtain ⟨n8, hn8⟩ : ∃ n8, (acc ++ pieceS s).length = n8 := ⟨_, rfl⟩
      have hn112 : n8 ≤ 112 * (n + 1) := by rw [← hn8, List.length_append]; have := HACC.out; omega
      rw [hn8] at HO8 hc8 ⊢
      have HN8 := Lib.hid hn8; clear hn8
      have HN112 := Lib.hid hn112; clear hn112
      have hwn : IntKind.i64.wrap ((n : Int) + 1) = (n : Int) + 1 := wraps_i64 _ (by omega) (by have := HMK0.out; omega)
      by_cases q5 : 2 ≤ x.toNat
      · rw [decide_eq_true q5, if_pos rfl] at hrec2
        have HREC2 := Lib.hid hrec2; clear hrec2
        have hq5 : (2 : Int) ≤ x.toNat := by omega
        go_wp2_with fail
        refine bodyPost_ret (v := .tuple #[.slice a8 n8 c8, .int .i64 ((n : Int) + 1)]) (by simp [results, Try.results84, go_sem]) rfl ?_
        refine ⟨hE8, ?_⟩
        rw [HREC2.out]
        exact ⟨_, by rw [show ((m + 1 - k : Nat) : Int) = (n : Int) + 1 by have := HMK0.out; omega], (HO8.out.toS HSS.out).sl etByte⟩
      · rw [decide_eq_false q5, if_neg (by decide)] at hrec2
        have HREC2 := Lib.hid hrec2; clear hrec2
        have hq5 : (x.toNat : Int) < 2 := by omega
        go_wp2_with fail
        go_roundw
        case rel => exact ⟨m + 1, n + 1, acc ++ pieceS s, by have := HMK0.out; omega, by omega, by go_num, HO8.out, hE8, by
          rw [HREC2.out, HG.out, decide_eq_false (by have := HMK0.out; omega)], by rw [HN8.out]; exact HN112.out⟩
        case measure => simp [intOf]; have := HMK0.out; omega
end Go.Proofs.Ytpciankfpagnhaa

/- What Records and Open of the reference do. -/
namespace Go.Proofs.Ytpciankfpagnhaa
open Go.RowKit

set_option maxRecDepth 100000 in
set_option maxHeartbeats 4000000 in
theorem refRecords_ok {S S2 : Nat → Prop} (w : World) (v : Value) (sl : List (List UInt8)) (h : Bss S2 w v sl) (hl2 : sl.length ≤ 4096) (h128 : ∀ s ∈ sl, s.length = 128) (hS : ∀ k, S k → k < w.heap.size) :
    Calls Try.prog 65 #[v] w fun e w' => ∃ v', e = .returned v' ∧ Bss S w' v' (recs sl) ∧ Ext w w' := by
  obtain ⟨aS, cS, rfl, hcS, hmS⟩ := h.open
  have HS := Lib.hid h; clear h
  have H128 := Lib.hid h128; clear h128
  have HSS := Lib.hid hS; clear hS
  go_enter Try.func65, Try.ntmps65
  go_wp2_with fail
  go_loopw [3, 4, 5] (fun ov av lv wq => ∃ (k q : Nat) (out : List (List UInt8)), k ≤ sl.length ∧ q < 4294967296 ∧ av = .int .i64 (k : Int) ∧ lv = .int .u64 (q : Int) ∧ OSl w.heap.size 35 1 eBs S wq ov out ∧ Ext w wq ∧
        recs sl = out ++ recsFrom sl k q ∧ out.length ≤ k) (fun _ av _ _ => sl.length - (intOf av).toNat)
  case atStart => exact ⟨0, 0, [], Nat.zero_le _, by decide, rfl, rfl, OSl.lit0 _ _ _ _ _ _ (Nat.le_refl _) (fun h => absurd (HSS.out _ h) (Nat.lt_irrefl _)), (Ext.refl w).alloc _, rfl, Nat.le_refl _⟩
  case round =>
    obtain ⟨k, q, out, hk, hq, rfl, rfl, hO, hE, hR, hol⟩ := hrel
    obtain ⟨aO, cO, rfl, hcO, hmO⟩ := (hO.sl etBs).open
    have HO := Lib.hid hO; clear hO
    have HR := Lib.hid hR; clear hR
    go_wp2_with fail
    refine (record_ok (S := fun j => j < wr.heap.size) wr _ sl k (Bss.keep HS.out hE) hk hl2 H128.out (fun _ h => h)).mono ?_
    rintro e w1 ⟨hx1, hm⟩
    cases hrc : recAt sl k with
    | none =>
      rw [hrc] at hm
      subst hm
      go_wp2_with fail
      go_ret
      exact ⟨_, rfl, by rw [HR.out, recsFrom_none hrc, List.append_nil]; exact (HO.out.keep etBs hx1).sl etBs, hE.trans hx1⟩
    | some r =>
      obtain ⟨b, k'⟩ := r
      rw [hrc] at hm
      obtain ⟨vb, rfl, hb⟩ := hm
      obtain ⟨hkk1, hkk2, hklt⟩ := recAt_lt hrc
      obtain ⟨n, hn⟩ : ∃ n, k' - k = n := ⟨_, rfl⟩
      have hn1 : 1 ≤ n := by omega
      have hkn : k + n = k' := by omega
      rw [hn]
      obtain ⟨ab, cb, rfl, hcb, hmb⟩ := hb.open
      have hE1 := hE.trans hx1
      have hHS : Bss S2 w1 (.slice aS sl.length cS) sl := Bss.keep HS.out hE1
      obtain ⟨bl, ol, vd, rfl, hb1, c1, hv⟩ := hHS.elem hklt
      have hsk := H128.out _ (List.getElem_mem hklt)
      have hgk : sl.getD k [] = sl[k] := by rw [List.getD_eq_getElem?_getD, List.getElem?_eq_getElem hklt]; rfl
      have HRC := Lib.hid hrc; clear hrc
      clear hHS
      generalize sl[k] = s at *
      have HG := Lib.hid hgk; clear hgk
      have HSL := Lib.hid hsk; clear hsk
      obtain ⟨a0, cs, rfl, hcs, hms⟩ := hv.open
      obtain ⟨b0, o0, rfl, -, -⟩ := hv.elem (k := 0) (by have := HSL.out; omega)
      have h4 := hv.sub 0 4 cs (by have := HSL.out; omega) (by have := HSL.out; omega) hms
      rw [List.drop_zero, Nat.add_zero] at h4
      have HK4 : Hid (Calls Try.prog 85 #[.slice (some ⟨b0, o0, none⟩) 4 cs] w1 fun e w' => e = .returned (.int .u64 (gen s : Int)) ∧ w1 = w') := number_ok w1 _ (s.take 4) h4 (by rw [List.length_take]; omega)
      have hgl : gen s < 4294967296 := by
        have := num_lt (s.take 4)
        rw [List.length_take, Nat.min_eq_left (by have := HSL.out; omega)] at this
        exact this
      clear hv h4 hb1
      have hnz : ((n : Int) == 0) = false := by simp; omega
      have hki : (k : Int) < sl.length := by omega
      have hc4 : (4 : Int) ≤ cs := by have := HSL.out; omega
      have HB := Lib.hid hb; clear hb
      have HN := Lib.hid hn; clear hn
      have HKN := Lib.hid hkn; clear hkn
      have hwk : IntKind.i64.wrap ((k : Int) + (n : Int)) = (k' : Int) := by have := HKN.out; rw [show (k : Int) + (n : Int) = k' by omega]; exact wraps_i64 _ (by omega) (by omega)
      generalize hge : gen s = gs at *
      have HGE := Lib.hid hge; clear hge
      by_cases q4 : gs < q
      case pos =>
        have HQ := Lib.hid q4
        go_wp2_with fail
        refine HK4.out.mono ?_
        rintro e w2 ⟨rfl, rfl⟩
        go_wp2_with fail
        go_ret
        exact ⟨_, rfl, by rw [HR.out, recsFrom_less (by rw [HG.out, HGE.out]; exact HQ.out), List.append_nil]; exact (HO.out.keep etBs hx1).sl etBs, hE1⟩
      have hq4 : q ≤ gs := by omega
      go_wp2_with fail
      refine HK4.out.mono ?_
      rintro e w2 ⟨rfl, rfl⟩
      go_wp2_with fail
      refine HK4.out.mono ?_
      rintro e w2 ⟨rfl, rfl⟩
      have hO1 := HO.out.keep etBs hx1
      have hob := hO1.block
      have hWo : ∀ j, Wo S (.slice aO out.length cO) j → j < w1.heap.size := by
        rintro j (hj | hj)
        · exact Nat.lt_of_lt_of_le (HSS.out j hj) hE1.size
        · exact (hob j hj).2
      have hbW : Bs (Wo S (.slice aO out.length cO)) w1 (.slice ab b.length cb) b := Sl.more etByte HB.out (by
        rintro j (hj | hj)
        · exact .inl (Nat.lt_of_lt_of_le (HSS.out j hj) hE.size)
        · exact .inl (HO.out.block j hj).2)
      have HLIT := Lib.hid (bs_lit (t := 35) hWo hbW); clear hbW
      have HO1 := Lib.hid hO1; clear hO1
      have hrw : ∀ j, (Value.slice aO out.length cO).ownBlock = some j → w.heap.size ≤ j := fun j hj => (hob j hj).1
      go_wp2_with (at_builtin; go_loud (refine wpList_append_osl (S := S) atBs etBs rfl _ _ rfl w.heap.size _ _ out [b] rfl rfl (HO1.out.keep etBs ((Ext.refl w1).alloc _)) HLIT.out (fun j hj => by rw [World.size_alloc]; exact Nat.lt_succ_of_lt (hWo j (.inl hj))) (by simp; omega) (by simp; omega) (by rw [World.size_alloc]; exact Nat.le_succ_of_le hE1.size) ?_))
      rintro v4 w4 ho4 hg4
      have hE4 : Ext w w4 := (hE1.alloc _).grown hg4 hrw
      have HO4 := Lib.hid ho4
      clear ho4 hg4 HLIT
      go_wp2_with fail
      go_roundw
      case rel => exact ⟨k', gs, out ++ [b], by omega, hgl, rfl, rfl, HO4.out, hE4, by
        rw [HR.out, recsFrom_some HRC.out (by rw [HG.out, HGE.out]; exact hq4), HG.out, HGE.out]; simp, by simp; omega⟩
      case measure => simp [intOf]; omega

set_option maxRecDepth 100000 in
set_option maxHeartbeats 4000000 in
theorem refOpen_ok {S : Nat → Prop} (w : World) (v : Value) (d : Dk) (h : Disk S w v d) (hS : ∀ k, S k → k < w.heap.size) : Calls Try.prog 39 #[v] w (JournalErr S w (openJ d)) := by
  obtain ⟨a, c, a2, c2, rfl, hc, hm, hc2, hm2, h1, h2⟩ := h.open
  have H := Lib.hid h; clear h
  have H1 := Lib.hid h1; clear h1 h2
  have HSS := Lib.hid hS; clear hS
  go_enter Try.func39, Try.ntmps39
  go_wp2_with fail
  refine (refCheck_ok _ _ d (H.out.keep (((Ext.refl _).alloc _).alloc _))).mono ?_
  rintro e w1 ⟨rfl, hx⟩
  have hE := (((Ext.refl w).alloc _).alloc _).trans hx
  have B0 := Lib.hid (((Box.new w _ _).past _).keep hx)
  have B1 := Lib.hid ((Box.at (b := w.heap.size + 1) (by simp)).keep hx)
  clear hx
  obtain ⟨c00, c01, c02, c03, f00, f01, f02, f03⟩ := B0.out.four
  obtain ⟨c10, c11, c12, f10, f11, f12⟩ := B1.out.three
  cases hr : okD d
  · rw [chk_no hr]
    go_wp2_with fail
    refine bodyPost_ret (v := .tuple #[.agg #[.slice none 0 0, .int .i64 0, .int .i64 0], .int .i64 410]) (by simp [results, Try.results39, go_sem, *]) rfl (JournalErr.mk (j := zeroJ) (by simp [openJ, hr]) (zeroJ_journal _ _) ?_)
    repeat (first | exact hE | refine Ext.setCell ?_ (by simp) _)
  rw [chk_yes hr]
  cases hst : d.stopped
  case true =>
    rw [hst] at c03
    have HST := Lib.hid hst; clear hst
    go_wp2_with fail
    refine bodyPost_ret (v := .tuple #[.agg #[.slice none 0 0, .int .i64 0, .int .i64 0], .int .i64 410]) (by simp [results, Try.results39, go_sem, *]) rfl (JournalErr.mk (j := zeroJ) (by simp [openJ, hr, HST.out]) (zeroJ_journal _ _) ?_)
    repeat (first | exact hE | refine Ext.setCell ?_ (by simp) _)
  rw [hst] at c03
  have HST := Lib.hid hst; clear hst
  by_cases hp : d.pending = []
  case neg =>
    have hp0 : (0 : Int) < d.pending.length := by have := List.length_pos_iff.2 hp; omega
    have HP := Lib.hid hp; clear hp
    go_wp2_with fail
    refine bodyPost_ret (v := .tuple #[.agg #[.slice none 0 0, .int .i64 0, .int .i64 0], .int .i64 1]) (by simp [results, Try.results39, go_sem, *]) rfl (JournalErr.mk (j := zeroJ) (by simp [openJ, hr, HST.out, HP.out]) (zeroJ_journal _ _) ?_)
    repeat (first | exact hE | refine Ext.setCell ?_ (by simp) _)
  have hpl : d.pending.length = 0 := by rw [hp]; rfl
  have hp0 : ¬ (0 : Int) < d.pending.length := by omega
  have HP := Lib.hid hp; clear hp
  have HPL := Lib.hid hpl; clear hpl
  obtain ⟨hk1, hk2, hk3⟩ := (okD_iff d).1 hr
  have h128 : ∀ s ∈ d.sectors, s.length = 128 := fun s hs => by
    rw [List.any_eq_false] at hk3
    have := hk3 s hs
    unfold badS at this
    simp at this; omega
  have H128 := Lib.hid h128; clear h128 hk2 hk3
  go_wp2_with fail
  refine (refRecords_ok (S := fun k => S k ∨ k = w.heap.size ∨ k = w.heap.size + 1) w1 _ d.sectors (Bss.keep H1.out hE) (by omega) H128.out ?_).mono ?_
  · rintro k (hk | hk | hk)
    · exact Nat.lt_of_lt_of_le (HSS.out k hk) hE.size
    · subst hk; exact B0.out.lt
    · subst hk; exact B1.out.lt
  rintro e w2 ⟨v2, rfl, hr2, hx2⟩
  obtain ⟨ar, cr, rfl, hcr, hmr⟩ := hr2.open
  have hE2 := hE.trans hx2
  have HR2 := Lib.hid hr2; clear hr2
  have HO1 : openJ d = ({ records := recs d.sectors, many := d.sectors.length, synced := (recs d.sectors).length }, 0) := by
    unfold openJ; rw [if_neg (by rw [hr]; decide), if_neg (by rw [HST.out]; decide), if_neg (by rw [HP.out]; simp)]
  have HOJ := Lib.hid HO1; clear HO1
  clear c00 c01 c02 c03 f00 f01 f02 f03 c10 c11 c12 f10 f11 f12
  obtain ⟨c00, c01, c02, c03, f00, f01, f02, f03⟩ := (B0.out.keep hx2).four
  obtain ⟨c10, c11, c12, f10, f11, f12⟩ := (B1.out.keep hx2).three
  clear B0 B1 hx2
  generalize recs d.sectors = rs at *
  go_wp2_with fail
  refine bodyPost_ret (v := .tuple #[.agg #[.slice ar rs.length cr, .int .i64 (d.sectors.length : Int), .int .i64 (rs.length : Int)], .int .i64 0]) (by simp [results, Try.results39, go_sem, *]) rfl (JournalErr.mk HOJ.out (Journal.mk' ?_) ?_)
  · refine Sl.more etBs (Sl.keepM etBs HR2.out ?_) (fun k hk => .inl (.inl hk))
    repeat (first | exact Mem.refl _ _ | refine Mem.setCell ?_ (.inr (.inr (by simp))) _)
  · repeat (first | exact hE2 | refine Ext.setCell ?_ (by simp) _)
end Go.Proofs.Ytpciankfpagnhaa
