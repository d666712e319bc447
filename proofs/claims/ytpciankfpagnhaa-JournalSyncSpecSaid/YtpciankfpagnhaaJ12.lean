/- What the iterator of records hands on. -/
import Derived.Test.YtpciankfpagnhaaJ10
import Derived.Test.YtpciankfpagnhaaJ8
import Derived.Test.YtpciankfpagnhaaD14
import Derived.Scope
import Derived.WalkMore
import Derived.Deep.LoopGhost
namespace Go.Proofs.Ytpciankfpagnhaa
open Go.RowKit Go.Shelf

attribute [local go_sem] Oper.semAt_some

section
variable {P : Program} {α : Type} {E : (Nat → Prop) → World → List Value → α → Prop} {S : Nat → Prop} {w : World}
theorem wpListIn_append_osl {F : Fence} {nn : Nat} {t e : TypeId} {size bytes : Nat} (hT : AT P t e size bytes) (hE : ET E) {ops : Array Oper} {rest : List Oper} {o : Oper} {a : Act} {Q : Exit → Act → World → Prop} (hgd : o.guard = none) (s x : Operand)
    (ho : o.op = .call { callee := .builtin .append, args := #[s, x], argTypes := #[t, t] }) (base : Nat) (v v2 : Value) (xs ys : List α) (hs : a.eval s = v) (hx : a.eval x = v2)
    (h1 : OSl base e size E S w v xs) (h2 : Sl size E (Wo S v) w v2 ys) (hS : ∀ k, S k → k < w.heap.size)
    (hbytes : (xs.length + ys.length) * bytes ≤ 140737488355328) (h63 : xs.length + ys.length ≤ 140737488355328) (hbase : base ≤ w.heap.size)
    (h : ∀ v' w', OSl base e size E S w' v' (xs ++ ys) → w.grownBy w' v.ownBlock → wpListIn F nn P ops Q rest (a.put o.dst v') w') : wpListIn F nn P ops Q (o :: rest) a w := by
  refine wpListIn_plain hgd fun K hK => ?_
  obtain ⟨ht, hsz, i, z, hi, hz, q1, q2, q3⟩ := hT
  obtain ⟨v', w', hr, k1, k2⟩ := run_append_osl (P := P) w hE base t o.type e i z size bytes ht hi hz q1 q2 q3 hsz v v2 xs ys h1 h2 hS (by unfold maxLen; omega) hbytes hbase
  unfold Oper.wpIn
  refine ⟨?_, ?_⟩
  · simp [Oper.about, ho, resolve, Target.leads, Sem.run_pure]
  · rw [Oper.semAt_plain F _ _ (by rw [ho]; intro c hc'; cases hc')]
    simp only [execOp, ho, resolve, invoke, builtin, Sem.run_bind, Sem.run_pure, Result.andThen_ok, List.map_toArray, List.map_cons, List.map_nil, hs, hx, hr]
    exact hK _ _ (h v' w' k1 k2)
end
theorem wo_free {g n N : Nat} {W : World} {v v2 : Value} {l : List UInt8} (h : Bs (Free g n) W v2 l) (hv : ∀ gg, v.ownBlock = some gg → N ≤ gg) (hn : n ≤ N) : Bs (Wo (fun _ => False) v) W v2 l :=
  h.more etByte fun k hk => .inl (hk.elim (fun h => h.elim) (fun h => .inr (Nat.le_trans hn (hv k h))))
/-- A record as it lies: the sector behind it, its slice; and what it reads as. -/
structure RElt where
  at_ : Nat
  a : Option Addr
  n : Nat
  c : Nat
  bytes : List UInt8
def RElt.enc (x : RElt) : Array Value := #[.int .i64 (x.at_ : Int), .slice x.a x.n x.c]
def RT (x : RElt) (Wl W : World) : Prop := Bs (fun k => k < Wl.heap.size) W (.slice x.a x.n x.c) x.bytes

set_option maxRecDepth 100000 in
set_option maxHeartbeats 4000000 in
theorem rec1_seq (gB g : Nat) (sv : Value) (sl : List (List UInt8)) (w : World) (hc : w.cell? ⟨gB, 0, none⟩ = some sv) (hgB : gB < w.heap.size) (hgg : gB ≠ g) (h : Bss (fun k => k = g) w sv sl)
    (hl1 : 1 ≤ sl.length) (hl2 : sl.length ≤ 4096) (h128 : ∀ s ∈ sl, s.length = 128) :
    SeqT Try.prog 82 #[.pointer (some ⟨gB, 0, none⟩)] RElt.enc RT g w.heap.size 4096 (fun xs => xs.map (·.bytes) = recs sl) w := by
  intro l J W hW hY h0
  have hS : Bss (Free g w.heap.size) w sv sl := h.more etBs fun k hk => hk
  obtain ⟨aS, cS, rfl, hcS, hmS⟩ := hS.open
  obtain ⟨bl, ol, vd0, rfl, hbl, -, -⟩ := hS.elem (k := 0) (by omega)
  clear h vd0
  have hc1 := hW.cell hc
  have HS := Lib.hid (hS.keep hW); clear hS
  have HY := Lib.hid hY; clear hY
  have HC := Lib.hid hc1; clear hc hc1
  have H128 := Lib.hid h128; clear h128
  refine callsIn_of_wp Try.func82 rfl trivial ?_ rfl
  simp only [Try.ntmps82, List.size_toArray, List.length_cons, List.length_nil, Nat.reduceAdd, Nat.reduceSub, Array.replicate_succ, Array.replicate_zero, List.push_toArray, List.append_toArray, List.nil_append, List.cons_append]
  refine (wpIn_wide (n := 1)).2 (wp_scope_straight ((wpIn_wide (n := 1)).1 ?_))
  gi_wp2
  refine wpIn_label ?_
  gi_wp2
  gi_loopw [3, 4] (fun av lv wr => ∃ (k q : Nat) (pre : List RElt) (Wl : World), k ≤ sl.length ∧ pre.length ≤ k ∧ av = .int .i64 (k : Int) ∧ lv = .int .u64 (q : Int) ∧ q < 4294967296 ∧ J pre Wl ∧ w.heap.size ≤ Wl.heap.size ∧ Ext Wl wr ∧ Mem (Free g w.heap.size) W wr ∧ recs sl = pre.map (·.bytes) ++ recsFrom sl k q)
    (fun av _ _ => sl.length - (intOf av).toNat)
  case atStart => exact ⟨0, 0, [], W, Nat.zero_le _, Nat.le_refl _, rfl, rfl, by decide, h0, hW.size, Ext.refl _, Mem.refl _ _, rfl⟩
  case round =>
    obtain ⟨k, q, pre, Wl, hk, hpk, rfl, rfl, hq, hJ, hWl, hE, hM, hR⟩ := hrel
    gi_wp2
    gi_loopw [3, 4, 5, 6] (fun av lv bvv nv wq => ∃ (m : Nat) (acc : List UInt8), av = .int .i64 (k : Int) ∧ lv = .int .u64 (q : Int) ∧ k ≤ m ∧ m ≤ sl.length ∧ nv = .int .i64 (m : Int) ∧ OSl Wl.heap.size 5 1 eByte (fun _ => False) wq bvv acc ∧ Ext Wl wq ∧ Mem (Free g w.heap.size) W wq ∧
        recAt sl k = recGo (gen (sl.getD k [])) m (decide (m = k)) acc (sl.drop m) ∧ acc.length ≤ 112 * (m - k)) (fun _ _ _ nv _ => sl.length - (intOf nv).toNat)
    case atStart => exact ⟨k, [], rfl, rfl, Nat.le_refl _, hk, rfl, OSl.nil _ _ _ _ _ _, hE, hM, by simp [recAt], by simp⟩
    case round =>
      obtain ⟨m, acc, rfl, rfl, hkm, hml, rfl, hO, hE2, hM2, hrec, hacc⟩ := hrel
      clear hE hM
      by_cases hlt : m < sl.length
      case neg =>
        obtain rfl : m = sl.length := by omega
        have hcB := hM2.cell (by unfold Free; omega) HC.out
        gi_wp2
        rw [Exit.noGoto_ret]
        refine bodyPost_ret (results_none rfl _ _ _) rfl ?_
        refine ⟨⟨_, rfl⟩, pre, Wl, ?_, hJ, hE2⟩
        rw [List.drop_length] at hrec
        rw [hR, recsFrom_none hrec, List.append_nil]
      have hklt : k < sl.length := by omega
      have hHS : Bss (Free g w.heap.size) wr (.slice (some ⟨bl, ol, none⟩) sl.length cS) sl := Sl.keepM etBs HS.out hM2
      obtain ⟨b1, o1, vd, e1, hb1, c1, hv⟩ := hHS.elem hlt
      cases e1
      obtain ⟨b2, o2, vd2, e2, hb2, c2, hv2⟩ := hHS.elem hklt
      cases e2
      have h128 := H128.out _ (List.getElem_mem hlt)
      have h128' := H128.out _ (List.getElem_mem hklt)
      have hcB := hM2.cell (by unfold Free; omega) HC.out
      have hgk : sl.getD k [] = sl[k] := by rw [List.getD_eq_getElem?_getD, List.getElem?_eq_getElem hklt]; rfl
      have hdm : sl.drop m = sl[m] :: sl.drop (m + 1) := List.drop_eq_getElem_cons hlt
      have hgmk : m = k → gen sl[m] = gen sl[k] := fun e => by subst e; rfl
      rw [hdm, hgk] at hrec
      clear hdm hHS
      have HG := Lib.hid hgk; clear hgk
      have HR := Lib.hid hR; clear hR
      have HMK := Lib.hid hgmk; clear hgmk
      unfold recGo at hrec
      have HREC := Lib.hid hrec; clear hrec
      have HSL := Lib.hid h128; clear h128
      have HSL' := Lib.hid h128'; clear h128'
      generalize sl[m] = s at *
      generalize sl[k] = sA at *
      obtain ⟨aS0, cs, rfl, hcs, hms⟩ := hv.open
      obtain ⟨aA, cA, rfl, hcA, hmA⟩ := hv2.open
      obtain ⟨b, o, rfl, hbb, x10⟩ := hv.elem (k := 10) (by have := HSL.out; omega)
      obtain ⟨b', o', e', -, x11⟩ := hv.elem (k := 11) (by have := HSL.out; omega)
      cases e'
      have hx10 : s.getD 10 0 = s[10]'(by have := HSL.out; omega) := by rw [List.getD_eq_getElem?_getD, List.getElem?_eq_getElem]; rfl
      have hx11 : s.getD 11 0 = s[11]'(by have := HSL.out; omega) := by rw [List.getD_eq_getElem?_getD, List.getElem?_eq_getElem]; rfl
      have HX10 := Lib.hid hx10; clear hx10
      have HX11 := Lib.hid hx11; clear hx11
      generalize s[10]'(by have := HSL.out; omega) = x at *
      generalize s[11]'(by have := HSL.out; omega) = y at *
      have HV := Lib.hid hv; clear hv
      have HV2 := Lib.hid hv2
      have hv2x := Lib.hid hv2; clear hv2
      have hmi : (m : Int) < sl.length := by omega
      have hm0 : (0 : Int) ≤ m := by omega
      have hgd := goodC_eq s m HSL.out (by omega)
      have HO := Lib.hid hO; clear hO
      -- ARMS
      obtain ⟨b3, o3, rfl, -, -⟩ := hv2x.out.elem (k := 0) (by have := HSL'.out; omega)
      gi_wp2
      by_cases q1 : goodS s m = true
      case neg =>
        have q1' : goodC s m = false := by rw [hgd]; simpa using q1
        have HQ1 := Lib.hid q1; clear q1
        refine (wpIn_wide (n := 1)).2 (reg82_6a _ _ _ _ _ _ _ _ _ _ _ _ _ _ _ _ _ _ _ _ _ _ _ _ _ _ _ _ _ _ _ _ _ _ _ _ _ _ _ _ _ _ _ _ _ _ _ _ _ _ _ _ _ _ _ _ _ _ _ _ _ _ _ _ _ _ _ _ _ _ _ _ wr gB m k q b o s.length cs s HV.out (by omega) HSL.out q1' ?_)
        intro v0 v1 v2 v3 v4 v5 v6 v7 v8 v9 v10 v11 v12 v13 v14 v15 v16 v17 v18 v19 v20 v21 v22 v23 v24 v25 v26 v27 v28 v29 v30 v31 v32 wx hxx
        dsimp only
        gi_wp2
        rw [Exit.noGoto_ret]
        refine bodyPost_ret (results_none rfl _ _ _) rfl ?_
        exact ⟨⟨_, rfl⟩, pre, Wl, by rw [HR.out, recsFrom_none (by rw [HREC.out, if_neg (by simp [HQ1.out])]), List.append_nil], hJ, hE2.trans hxx⟩
      have q1' : goodC s m = true := by rw [hgd]; exact q1
      have HQ1 := Lib.hid q1; clear q1
      have hbg : ((x.toNat : Int) % 2 != 0) = begS s := by
        unfold begS; rw [HX10.out]
        rcases Nat.mod_two_eq_zero_or_one x.toNat with h | h
        · have : (x.toNat : Int) % 2 = 0 := by omega
          rw [this, h]; rfl
        · have : (x.toNat : Int) % 2 = 1 := by omega
          rw [this, h]; rfl
      have hfs : ((m : Int) == (k : Int)) = decide (m = k) := by
        by_cases h : m = k
        · subst h; simp
        · have : ¬ (m : Int) = k := by omega
          simp [h, this]
      have HBG := Lib.hid hbg; clear hbg
      have HFS := Lib.hid hfs; clear hfs
      by_cases q2 : (begS s == decide (m = k)) = true
      case neg =>
        have q2' : (begS s == decide (m = k)) = false := by simpa using q2
        have HQ2 := Lib.hid q2; clear q2
        refine (wpIn_wide (n := 1)).2 (reg82_6b _ _ _ _ _ _ _ _ _ _ _ _ _ _ _ _ _ _ _ _ _ _ _ _ _ _ _ _ _ _ _ _ _ _ _ _ _ _ _ _ _ _ _ _ _ _ _ _ _ _ _ _ _ _ _ _ _ _ _ _ _ _ _ _ _ _ _ _ _ _ _ _ wr gB m k q b o s.length cs x (begS s) (decide (m = k)) s HV.out HSL.out (by omega) HSL.out q1' x10 HBG.out HFS.out q2' ?_)
        intro v0 v1 v2 v3 v4 v5 v6 v7 v8 v9 v10 v11 v12 v13 v14 v15 v16 v17 v18 v19 v20 v21 v22 v23 v24 v25 v26 v27 v28 v29 v30 v31 v32 wx hxx
        dsimp only
        gi_wp2
        rw [Exit.noGoto_ret]
        refine bodyPost_ret (results_none rfl _ _ _) rfl ?_
        exact ⟨⟨_, rfl⟩, pre, Wl, by rw [HR.out, recsFrom_none (by rw [HREC.out, if_neg (by simp only [HQ1.out, Bool.true_and, Bool.and_eq_true, not_and]; intro h; exact absurd h HQ2.out)]), List.append_nil], hJ, hE2.trans hxx⟩
      have HQ2 := Lib.hid q2
      by_cases q3 : gen s = gen sA
      case neg =>
        have q3' : ((gen s : Int) != (gen sA : Int)) = true := by simp; omega
        have HQ3 := Lib.hid q3; clear q3
        refine (wpIn_wide (n := 1)).2 (reg82_6c _ _ _ _ _ _ _ _ _ _ _ _ _ _ _ _ _ _ _ _ _ _ _ _ _ _ _ _ _ _ _ _ _ _ _ _ _ _ _ _ _ _ _ _ _ _ _ _ _ _ _ _ _ _ _ _ _ _ _ _ _ _ _ _ _ _ _ _ _ _ _ _ wr gB m k q b o s.length cs bl ol sl.length cS b3 o3 sA.length cA (gen s) (gen sA) x (begS s) (decide (m = k)) s sA HV.out HSL.out hcs hms (by omega) HSL.out q1' x10 HBG.out HFS.out q2 rfl rfl HV2.out HSL'.out HSL'.out hcA hmA hcB c2 hklt q3' ?_)
        intro v0 v1 v2 v3 v4 v5 v6 v7 v8 v9 v10 v11 v12 v13 v14 v15 v16 v17 v18 v19 v20 v21 v22 v23 v24 v25 v26 v27 v28 v29 v30 v31 v32 wx hxx
        dsimp only
        gi_wp2
        rw [Exit.noGoto_ret]
        refine bodyPost_ret (results_none rfl _ _ _) rfl ?_
        exact ⟨⟨_, rfl⟩, pre, Wl, by rw [HR.out, recsFrom_none (by rw [HREC.out, if_neg (by simp only [Bool.and_eq_true, decide_eq_true_eq, not_and]; intro _ h; exact absurd h HQ3.out)]), List.append_nil], hJ, hE2.trans hxx⟩
      have q3' : ((gen s : Int) != (gen sA : Int)) = false := by simp; omega
      have HQ3 := Lib.hid q3; clear q3
      refine (wpIn_wide (n := 1)).2 (reg82_6d _ _ _ _ _ _ _ _ _ _ _ _ _ _ _ _ _ _ _ _ _ _ _ _ _ _ _ _ _ _ _ _ _ _ _ _ _ _ _ _ _ _ _ _ _ _ _ _ _ _ _ _ _ _ _ _ _ _ _ _ _ _ _ _ _ _ _ _ _ _ _ _ wr gB m k q b o s.length cs bl ol sl.length cS b3 o3 sA.length cA (gen s) (gen sA) x (begS s) (decide (m = k)) s sA HV.out HSL.out hcs hms (by omega) HSL.out q1' x10 HBG.out HFS.out q2 rfl rfl HV2.out HSL'.out HSL'.out hcA hmA hcB c2 hklt q3' ?_)
      clear q2 q3' q1'
      by_cases q4 : gen s < q
      case pos =>
        have HQ4 := Lib.hid q4
        rw [decide_eq_true q4]
        clear q4
        intro v0 v1 v2 v3 v4 v5 v6 v7 v8 v9 v10 v11 v12 v13 v14 v15 v16 v17 v18 v19 v20 v21 v22 v23 v24 v25 v26 v27 v28 v29 v30 v31 v32 wx hxx
        dsimp only
        gi_wp2
        rw [Exit.noGoto_ret]
        refine bodyPost_ret (results_none rfl _ _ _) rfl ?_
        exact ⟨⟨_, rfl⟩, pre, Wl, by rw [HR.out, recsFrom_less (by rw [HG.out, ← HQ3.out]; exact HQ4.out), List.append_nil], hJ, hE2.trans hxx⟩
      rw [decide_eq_false q4]
      intro v0 v1 v2 v3 v4 v5 v6 v7 v8 v9 v10 v11 v12 v13 v14 v15 v16 v17 v18 v19 v20 v21 v22 v23 v24 v25 v26 v27 v28 v29 v30 v31 v32 wx hxx
      dsimp only
      have hE3 := hE2.trans hxx
      have hM3 := hM2.trans (hxx.mem _)
      clear hE2 hM2
      have HV3 := Lib.hid (HV.out.keep hxx); clear HV
      have hO3 := HO.out.keep etByte hxx; clear HO
      have x10' := hxx.cell x10
      have x11' := hxx.cell x11
      clear x10 x11 c1 c2 hcB HV2 hb1 hb2
      have hyl : y.toNat ≤ 112 ∧ x.toNat ≤ 3 := by
        have := HQ1.out
        rw [goodS_def, HX10.out, HX11.out] at this
        simp only [Bool.and_eq_true, decide_eq_true_eq] at this
        exact ⟨this.1.1.1.2, this.1.1.1.1.2⟩
      have hx4 : x = 0 ∨ x = 1 ∨ x = 2 ∨ x = 3 := byte4 x hyl.2
      have hps := HV3.out.sub 12 y.toNat (cs - 12) (by have := HSL.out; omega) (by have := HSL.out; omega) (by unfold maxLen; omega)
      have hpe : pieceS s = (s.drop 12).take y.toNat := by unfold pieceS; rw [HX11.out]
      rw [← hpe] at hps
      have hpl : (pieceS s).length = y.toNat := by rw [hpe, List.length_take, List.length_drop]; have := HSL.out; omega
      have HPS := Lib.hid hps; clear hps
      have HPE := Lib.hid hpe; clear hpe
      obtain ⟨a5, c5, rfl, hc5, hm5⟩ := (hO3.sl etByte).open
      have hnv : ∀ gg, (Value.slice a5 acc.length c5).ownBlock = some gg → Wl.heap.size ≤ gg := fun gg hgg' => (hO3.block gg hgg').1
      have HO3 := Lib.hid hO3; clear hO3
      have hy112 : y.toNat ≤ 112 := hyl.1
      have hy0 : (y.toNat : Int) ≤ 112 := by omega
      have hwr1 : IntKind.i64.wrap (12 + (y.toNat : Int)) = 12 + (y.toNat : Int) := wraps_i64 _ (by omega) (by omega)
      have hyt : (12 + (y.toNat : Int)).toNat - 12 = y.toNat := by omega
      have hsl1 : (128 : Int) ≤ s.length := by have := HSL.out; omega
      have hyc : (12 + (y.toNat : Int)) ≤ cs := by omega
      have hc12 : ¬ cs = 12 := by omega
      have hy1 : (12 : Int) ≤ 12 + (y.toNat : Int) := by omega
      have h10 : (10 : Int) < s.length := by omega
      have h11 : (11 : Int) < s.length := by omega
      gi_wp2_with (gi_at_builtin; go_loud (refine wpListIn_append_osl (S := fun _ => False) atB etByte rfl _ _ rfl Wl.heap.size _ _ acc (pieceS s) rfl rfl HO3.out (wo_free HPS.out hnv hWl) (fun _ h => h.elim) (by omega) (by omega) hE3.size ?_))
      rintro v8 w8 ho8 hg8
      have hE8 : Ext Wl w8 := hE3.grown hg8 hnv
      have hm8 : Mem (Free g w.heap.size) wx w8 := ⟨hg8.size, fun kk h1 h2 => hg8.block kk h1 (fun e => h2 (.inr (Nat.le_trans hWl (hnv kk e.symm))))⟩
      have hM8 := hM3.trans hm8
      have HV8 : Hid (Bs (Free g w.heap.size) w8 (.slice (some ⟨b, o, none⟩) s.length cs) s) := Sl.keepM etByte HV3.out hm8
      have x10 := hm8.cell hbb.2 x10'
      clear x10' x11' hg8 hm8 HV3 HPS HO3 hE3 hM3 hnv
      have HO8 := Lib.hid ho8; clear ho8
      have hHS8 : Bss (Free g w.heap.size) w8 (.slice (some ⟨bl, ol, none⟩) sl.length cS) sl := Sl.keepM etBs HS.out hM8
      have hgood : (goodS s m && (begS s == decide (m = k)) && decide (gen s = gen sA)) = true := by
        rw [HQ1.out, HQ2.out, decide_eq_true HQ3.out]; rfl
      have hrec2 := HREC.out
      rw [if_pos hgood] at hrec2
      have hend : endS s = decide (2 ≤ x.toNat) := by unfold endS; rw [HX10.out]
      have HB4 := Lib.hid (HV8.out.sub 0 4 cs (by have := HSL.out; omega) (by have := HSL.out; omega) hms)
      have hc4 : (4 : Int) ≤ cs := by have := HSL.out; omega
      by_cases q5 : 2 ≤ x.toNat
      · rw [hend, decide_eq_true q5, if_pos rfl] at hrec2
        have HREC2 := Lib.hid hrec2; clear hrec2
        have hb2 : bits .and .u8 (x.toNat : Int) 2 = 2 := by
          rcases hx4 with rfl | rfl | rfl | rfl
          · exact absurd q5 (by decide)
          · exact absurd q5 (by decide)
          · decide
          · decide
        clear q5 hx4 hend
        obtain ⟨a8, c8, rfl, hc8, hm8⟩ := (HO8.out.sl etByte).open
        have hwr2 : IntKind.i64.wrap ((m : Int) + 1) = (m : Int) + 1 := wraps_i64 _ (by omega) (by omega)
        obtain ⟨n8, hn8⟩ : ∃ n8, (acc ++ pieceS s).length = n8 := ⟨_, rfl⟩
        rw [hn8] at HO8 ⊢
        have hq5 : q ≤ gen s := by omega
        obtain ⟨fn, tmps, assign, body, hy, hRd⟩ := HY.out pre ⟨m + 1, a8, n8, c8, acc ++ pieceS s⟩ Wl w8 hJ (by omega) hE8 ((HO8.out.toS (fun _ h => h)).sl etByte)
        simp only [RElt.enc] at hy
        have HRD := Lib.hid hRd; clear hRd
        rw [show (((m + 1 : Nat) : Int)) = (m : Int) + 1 by omega] at hy
        have HN8 := Lib.hid hn8; clear hn8
        gi_wp2
        refine ⟨trivial, (callsIn_wide.2 (get_ok w8 _ (s.take 4) (by have := HB4.out; rwa [List.drop_zero, Nat.add_zero] at this) (by rw [List.length_take]; omega))).mono ?_⟩
        rintro e w9 ⟨rfl, rfl⟩
        gi_wp2
        refine HRD.out.mono ?_
        rintro e W3 ⟨rfl, hJ3, hM9⟩
        have hsz := hM9.size
        have hsz8 := hE8.size
        gi_wp2
        have hgl : gen s < 4294967296 := by
          have := num_lt (s.take 4)
          rw [List.length_take, Nat.min_eq_left (by have := HSL.out; omega)] at this
          exact this
        go_roundw
        case rel => exact ⟨m + 1, gen s, _, W3, by omega, by rw [List.length_append]; simp; omega, by go_num, rfl, hgl, hJ3, by omega, Ext.refl _, hM8.trans hM9, by
          rw [HR.out, recsFrom_some HREC2.out (by rw [HG.out, ← HQ3.out]; exact hq5), HG.out, ← HQ3.out]; simp⟩
        case measure => simp [intOf]; omega
      · rw [hend, decide_eq_false q5, if_neg (by decide)] at hrec2
        have HREC2 := Lib.hid hrec2; clear hrec2
        have hb2 : bits .and .u8 (x.toNat : Int) 2 = 0 := by
          rcases hx4 with rfl | rfl | rfl | rfl
          · decide
          · decide
          · exact absurd (by decide) q5
          · exact absurd (by decide) q5
        clear q5 hx4 hend
        obtain ⟨a8, c8, rfl, hc8, hm8⟩ := (HO8.out.sl etByte).open
        have hal : (acc ++ pieceS s).length ≤ 112 * (m + 1 - k) := by rw [List.length_append, hpl]; omega
        have HAL := Lib.hid hal; clear hal
        gi_wp2
        go_roundw
        case rel => exact ⟨m + 1, acc ++ pieceS s, rfl, rfl, by omega, by omega, by go_num, HO8.out, hE8, hM8, by
          rw [HREC2.out, HG.out, decide_eq_false (by omega)], HAL.out⟩
        case measure => simp [intOf]; omega
end Go.Proofs.Ytpciankfpagnhaa
