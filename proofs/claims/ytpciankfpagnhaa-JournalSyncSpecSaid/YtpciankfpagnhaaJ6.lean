/- Comparisons of bytes, of lists of records and of journals. -/
import Derived.Test.YtpciankfpagnhaaJ1
namespace Go.Proofs.Ytpciankfpagnhaa
open Go.RowKit

set_option maxHeartbeats 400000 in
theorem bytesEqual_ok {S S2 : Nat → Prop} (w : World) (v v2 : Value) (x y : List UInt8) (h : Bs S w v x) (h' : Bs S2 w v2 y) :
    Calls Try.prog 73 #[v, v2] w fun e w' => e = .returned (.bool (decide (x = y))) ∧ Ext w w' := by
  obtain ⟨a, c, rfl, hc, hm⟩ := h.open
  obtain ⟨a2, c2, rfl, hc2, hm2⟩ := h'.open
  have k3 := conv_str h
  have k4 := conv_str h'
  clear h h'
  go_enter Try.func73, Try.ntmps73
  go_wp2_with fail
  go_ret
  exact ⟨ret_b (by by_cases h : x = y <;> simp [h]), Ext.refl _⟩

set_option maxHeartbeats 1000000 in
theorem sameRecords_ok {S S2 : Nat → Prop} (w : World) (v v2 : Value) (d d2 : List (List UInt8)) (h : Bss S w v d) (h' : Bss S2 w v2 d2) :
    Calls Try.prog 49 #[v, v2] w fun e w' => e = .returned (.bool (decide (d = d2))) ∧ ∃ m, w' = w.drewN m := by
  obtain ⟨a, c, rfl, hc, hm⟩ := h.open
  obtain ⟨a2, c2, rfl, hc2, hm2⟩ := h'.open
  have H1 := Lib.hid h; clear h
  have H12 := Lib.hid h'; clear h'
  by_cases hh : d.length = d2.length
  case neg =>
    have hne : decide (d = d2) = false := by simp; intro e; subst e; exact hh rfl
    have HNE := Lib.hid hne; clear hne
    have hh' : ((d.length : Int) != d2.length) = true := by simp; omega
    clear hh
    go_enter Try.func49, Try.ntmps49
    go_wp2_with fail
    go_ret
    exact ⟨ret_b HNE.out.symm, 0, rfl⟩
  have hh' : ((d.length : Int) != d2.length) = false := by simp; omega
  have E1 := Lib.hid hh; clear hh
  go_enter Try.func49, Try.ntmps49
  go_wp2_with fail
  go_loopw [5] (fun i wr => ∃ k m : Nat, k ≤ d.length ∧ i = .int .i64 k ∧ wr = w.drewN m ∧ AgreeTo d d2 k) (fun i _ => d.length - (intOf i).toNat)
  case atStart => exact ⟨0, 0, Nat.zero_le _, rfl, rfl, AgreeTo.zero _ _⟩
  case round =>
    obtain ⟨k, m, hk, rfl, rfl, hag⟩ := hrel
    by_cases hlt : k < d.length
    · have hlt2 : k < d2.length := by have := E1.out; omega
      obtain ⟨bb, oo, vd, rfl, hbb, x0, hv⟩ := H1.out.elem hlt
      obtain ⟨bb2, oo2, vd2, rfl, hbb2, x2, hv2⟩ := H12.out.elem hlt2
      obtain ⟨a3, c3, rfl, hc3, hm3⟩ := hv.open
      obtain ⟨a4, c4, rfl, hc4, hm4⟩ := hv2.open
      have kk1 := fun nq => conv_strN hv nq
      have kk2 := fun nq => conv_strN hv2 nq
      have HA := Lib.hid (AgreeTo.succ hag hlt hlt2); clear hag
      have HN : Hid (d[k] ≠ d2[k] → decide (d = d2) = false) := fun h => by simp; intro e; subst e; exact h rfl
      clear hv hv2
      generalize d[k] = x at *
      generalize d2[k] = y at *
      have hi1 : (k : Int) < d.length := by omega
      have hi2 : (k : Int) < d2.length := by omega
      have hi0 : (0 : Int) ≤ k := by omega
      go_wp2_with fail
      go_quiet (fail)
      go_wp2_with fail
      · rename_i hxy
        go_ret
        exact ⟨ret_b (HN.out (by simpa using hxy)).symm, _, drewN_add _ _ _⟩
      · rename_i hxy
        go_roundw
        case rel => exact ⟨k + 1, _, by omega, by go_num, rfl, HA.out (by simpa using hxy)⟩
        case measure => simp [intOf]; omega
    · obtain rfl : k = d.length := by omega
      have HS := Lib.hid (hag.eq E1.out); clear hag
      go_wp2_with fail
      go_ret
      exact ⟨ret_b (by simp [HS.out]), _, rfl⟩

set_option maxHeartbeats 1000000 in
theorem equalFunc_ok {S S2 : Nat → Prop} (w : World) (v v2 : Value) (d d2 : List (List UInt8)) (h : Bss S w v d) (h' : Bss S2 w v2 d2) :
    Calls Try.prog 72 #[v, v2, .func (.func 73) #[] #[]] w fun e w' => e = .returned (.bool (decide (d = d2))) ∧ Ext w w' := by
  obtain ⟨a, c, rfl, hc, hm⟩ := h.open
  obtain ⟨a2, c2, rfl, hc2, hm2⟩ := h'.open
  have H1 := Lib.hid h; clear h
  have H12 := Lib.hid h'; clear h'
  by_cases hh : d.length = d2.length
  case neg =>
    have hne : decide (d = d2) = false := by simp; intro e; subst e; exact hh rfl
    have HNE := Lib.hid hne; clear hne
    have hh' : ((d.length : Int) != d2.length) = true := by simp; omega
    clear hh
    go_enter Try.func72, Try.ntmps72
    go_wp2_with fail
    go_ret
    exact ⟨ret_b HNE.out.symm, Ext.refl _⟩
  have hh' : ((d.length : Int) != d2.length) = false := by simp; omega
  have E1 := Lib.hid hh; clear hh
  go_enter Try.func72, Try.ntmps72
  go_wp2_with fail
  go_loopw [17] (fun i wr => ∃ k : Nat, k ≤ d.length ∧ i = .int .i64 k ∧ Ext w wr ∧ AgreeTo d d2 k) (fun i _ => d.length - (intOf i).toNat)
  case atStart => exact ⟨0, Nat.zero_le _, rfl, Ext.refl _, AgreeTo.zero _ _⟩
  case round =>
    obtain ⟨k, hk, rfl, hx, hag⟩ := hrel
    by_cases hlt : k < d.length
    · have hlt2 : k < d2.length := by have := E1.out; omega
      obtain ⟨bb, oo, vd, rfl, hbb, x0, hv⟩ := (H1.out.keep hx).elem hlt
      obtain ⟨bb2, oo2, vd2, rfl, hbb2, x2, hv2⟩ := (H12.out.keep hx).elem hlt2
      obtain ⟨a3, c3, rfl, hc3, hm3⟩ := hv.open
      obtain ⟨a4, c4, rfl, hc4, hm4⟩ := hv2.open
      have HA := Lib.hid (AgreeTo.succ hag hlt hlt2); clear hag
      have HN : Hid (d[k] ≠ d2[k] → decide (d = d2) = false) := fun h => by simp; intro e; subst e; exact h rfl
      have HV := Lib.hid hv; have HV2 := Lib.hid hv2
      clear hv hv2
      generalize d[k] = x at *
      generalize d2[k] = y at *
      have hi1 : (k : Int) < d.length := by omega
      have hi2 : (k : Int) < d2.length := by omega
      have hi0 : (0 : Int) ≤ k := by omega
      go_wp2_with fail
      refine (bytesEqual_ok _ _ _ x y HV.out HV2.out).mono ?_
      rintro e w1 ⟨rfl, hx1⟩
      have hx2 := hx.trans hx1
      by_cases hxy : x = y
      · have hd : decide (x = y) = true := by simp [hxy]
        rw [hd]
        have HXY := Lib.hid hxy; clear hxy hd
        go_wp2_with fail
        go_roundw
        case rel => exact ⟨k + 1, by omega, by go_num, hx2, HA.out HXY.out⟩
        case measure => simp [intOf]; omega
      · have hd : decide (x = y) = false := by simp [hxy]
        rw [hd]
        have HXY := Lib.hid hxy; clear hxy hd
        go_wp2_with fail
        go_ret
        exact ⟨ret_b (HN.out HXY.out).symm, hx2⟩
    · obtain rfl : k = d.length := by omega
      have HS := Lib.hid (hag.eq E1.out); clear hag
      go_wp2_with fail
      go_ret
      exact ⟨ret_b (by simp [HS.out]), hx⟩

set_option maxRecDepth 100000 in
set_option maxHeartbeats 1000000 in
theorem sameJ_ok {S S2 : Nat → Prop} (w : World) (v v2 : Value) (d d2 : Jn) (h : Journal S w v d) (h' : Journal S2 w v2 d2) :
    Calls Try.prog 40 #[v, v2] w fun e w' => e = .returned (.bool (decide (d = d2))) ∧ Ext w w' := by
  obtain ⟨a, c, rfl, hc, hm, h1⟩ := h.open
  obtain ⟨a2, c2, rfl, hc2, hm2, h12⟩ := h'.open
  clear h h'
  have H1 := Lib.hid h1; clear h1
  have H12 := Lib.hid h12; clear h12
  have HD : Hid (decide (d = d2) = (decide (d.many = d2.many) && decide (d.synced = d2.synced) && decide (d.records = d2.records))) := by
    show _ = _
    obtain ⟨r, m, s⟩ := d
    obtain ⟨r2, m2, s2⟩ := d2
    rw [Bool.eq_iff_iff]
    simp only [decide_eq_true_eq, Bool.and_eq_true, Jn.mk.injEq]
    exact ⟨fun ⟨a, b, c⟩ => ⟨⟨b, c⟩, a⟩, fun ⟨⟨b, c⟩, a⟩ => ⟨a, b, c⟩⟩
  go_enter Try.func40, Try.ntmps40
  go_upto_region 1 with fail
  have B0 := (Box.new w [.slice a d.records.length c, .int .i64 d.many, .int .i64 d.synced] 55).past (.cells #[.slice a2 d2.records.length c2, .int .i64 d2.many, .int .i64 d2.synced] 55)
  have B1 : Box _ (w.heap.size + 1) _ := Box.at (w := w.alloc (.cells #[.slice a d.records.length c, .int .i64 d.many, .int .i64 d.synced] 55)) (cs := [.slice a2 d2.records.length c2, .int .i64 d2.many, .int .i64 d2.synced]) (t := 55) (by simp)
  have hE := ((Ext.refl w).alloc (.cells #[.slice a d.records.length c, .int .i64 d.many, .int .i64 d.synced] 55)).alloc (.cells #[.slice a2 d2.records.length c2, .int .i64 d2.many, .int .i64 d2.synced] 55)
  generalize hW : (w.alloc (.cells #[.slice a d.records.length c, .int .i64 d.many, .int .i64 d.synced] 55)).alloc (.cells #[.slice a2 d2.records.length c2, .int .i64 d2.many, .int .i64 d2.synced] 55) = W at *
  clear hW
  obtain ⟨c00, c01, c02, -, -, -⟩ := B0.three
  obtain ⟨c10, c11, c12, -, -, -⟩ := B1.three
  clear B0 B1
  generalize hg : w.heap.size = g at *
  have HG := Lib.hid hg; clear hg
  by_cases q1 : d.many = d2.many
  case neg =>
    have d1 : (d.many == d2.many) = false := by simp [q1]
    have Q := Lib.hid q1; clear q1
    first | go_quiet (fail) | skip
    go_wp2_with fail
    go_ret
    exact ⟨ret_b (by rw [HD.out]; simp [Q.out]), by first | exact hE | exact hE.trans (Ext.drewN _ _)⟩
  have d1 : (d.many == d2.many) = true := by simp [q1]
  have Q1 := Lib.hid q1; clear q1
  by_cases q2 : d.synced = d2.synced
  case neg =>
    have d2 : (d.synced == d2.synced) = false := by simp [q2]
    have Q := Lib.hid q2; clear q2
    first | go_quiet (fail) | skip
    go_wp2_with fail
    go_ret
    exact ⟨ret_b (by rw [HD.out]; simp [Q.out]), by first | exact hE | exact hE.trans (Ext.drewN _ _)⟩
  have d2' : (d.synced == d2.synced) = true := by simp [q2]
  have Q2 := Lib.hid q2; clear q2
  have K := Lib.hid (fun n => sameRecords_ok (W.drewN n) _ _ d.records d2.records ((H1.out.keep hE).keep (Ext.drewN _ n)) ((H12.out.keep hE).keep (Ext.drewN _ n)))
  have K0 := Lib.hid (sameRecords_ok W _ _ d.records d2.records (H1.out.keep hE) (H12.out.keep hE))
  first
    | go_quiet ((go_at_call 49; exact Calls.quiet_of (K.out _)))
      go_wp2_with fail
      go_ret
      exact ⟨ret_b (by rw [HD.out]; simp [Q1.out, Q2.out]), hE.trans (Ext.drewN _ _)⟩
    | go_wp2_with fail
      refine K0.out.mono ?_
      rintro e w1 ⟨rfl, m, rfl⟩
      go_wp2_with fail
      go_ret
      exact ⟨ret_b (by rw [HD.out]; simp [Q1.out, Q2.out]), hE.trans (Ext.drewN _ _)⟩
end Go.Proofs.Ytpciankfpagnhaa
