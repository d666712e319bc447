/- The law DiskStopped returns true on every input. -/
import Derived.Test.YtpciankfpagnhaaD24
namespace Go.Proofs.Ytpciankfpagnhaa
open Go.RowKit

theorem stopped_runs (d : Dk) : runsD { d with stopped := true } = false := by simp [runsD]
theorem stopped_read (d : Dk) (i : Int) : readD { d with stopped := true } i = ([], 410) := by simp [readD, stopped_runs]
theorem stopped_write (d : Dk) (i : Int) (b : List UInt8) : writeD { d with stopped := true } i b = (zeroD, 410) := by simp [writeD, stopped_runs]
theorem stopped_sync (d : Dk) : syncD { d with stopped := true } = (zeroD, 410) := by simp [syncD, stopped_runs]
theorem stopped_stop (d : Dk) (i : Int) : stopD { d with stopped := true } i = (zeroD, 410) := by simp [stopD, stopped_runs]

set_option maxRecDepth 100000 in
set_option maxHeartbeats 2000000 in
theorem diskStopped_ok (w : World) (v : Value) (d : Dk) (i left : Int) (vb : Value) (b : List UInt8) (h : Disk No w v d) (hb : Bs No w vb b) (hr : ReachD d) :
    Calls Try.prog 9 #[v, .int .i64 i, .int .i64 left, vb] w fun e w' => e = .returned (.bool true) ∧ Ext w w' := by
  obtain ⟨a, c, a2, c2, rfl, hc, hm, hc2, hm2, h1, h2⟩ := h.open
  obtain ⟨a3, c3, rfl, hc3, hm3⟩ := hb.open
  have H := Lib.hid h; clear h
  have H1 := Lib.hid h1; clear h1
  have H2 := Lib.hid h2; clear h2
  have HB := Lib.hid hb; clear hb
  have HR := Lib.hid hr; clear hr
  go_enter Try.func9, Try.ntmps9
  go_wp2_with fail
  refine (sane41_ok _).mono ?_
  rintro e w1 ⟨rfl, hx⟩
  have hE := ((Ext.refl w).alloc _).trans hx
  have B0 := Lib.hid ((Box.new w _ _).keep hx)
  clear hx
  obtain ⟨c00, c01, c02, c03, -, -, -, -⟩ := B0.out.four
  go_wp2_with fail
  refine (few_ok _ _ d (H.out.keep hE) HR.out).mono ?_
  rintro e w2 ⟨rfl, hx⟩
  have C0 := Lib.hid (B0.out.keep hx); clear B0 c00 c01 c02 c03
  have hE2 := hE.trans hx
  clear hx hE
  cases hf : fewD d
  · go_wp2_with fail
    go_ret
    exact ⟨rfl, hE2⟩
  by_cases hl : 1000 < b.length
  · have hl' : (1000 : Int) < (b.length : Int) := by omega
    go_wp2_with fail
    go_ret
    exact ⟨rfl, hE2⟩
  have hl' : ¬ (1000 : Int) < (b.length : Int) := by omega
  obtain ⟨c00, c01, c02, c03, -, -, -, -⟩ := C0.out.four
  go_wp2_with fail
  refine (restart_ok _ _ d (H.out.keep hE2)).mono ?_
  rintro e w3 ⟨v3, rfl, hd3, hx3⟩
  obtain ⟨a4, c4, a5, c5, rfl, -, -, -, -, hs4, -⟩ := hd3.open
  clear c00 c01 c02 c03
  have hx4 := hx3.alloc (.cells (dkCells a4 c4 a5 c5 (restartD d)).toArray 25)
  have B3 := Lib.hid (Box.new w3 (dkCells a4 c4 a5 c5 (restartD d)) 25)
  have HD3 := Lib.hid (hd3.keep ((Ext.refl w3).alloc (.cells (dkCells a4 c4 a5 c5 (restartD d)).toArray 25)))
  have HS4 := Lib.hid (hs4.keep ((Ext.refl w3).alloc (.cells (dkCells a4 c4 a5 c5 (restartD d)).toArray 25)))
  have D0 := Lib.hid (C0.out.keep hx4); clear C0
  have hE4 := hE2.trans hx4; clear hE2
  clear hd3 hx3 hx4 hs4
  go_upto_region 6 with fail
  generalize w3.alloc (.cells (dkCells a4 c4 a5 c5 (restartD d)).toArray 25) = w4 at *
  generalize w3.heap.size = n3 at *
  obtain ⟨c30, c31, c32, c33, -, -, -, -⟩ := B3.out.four
  go_wp2_with fail
  refine (restart_ok _ _ (restartD d) HD3.out).mono ?_
  rintro e w5 ⟨v5, rfl, hd5, hx5⟩
  have hd5' : Disk No w5 v5 (restartD d) := hd5
  obtain ⟨a6, c6, a7, c7, rfl, -, -, -, -, -, -⟩ := hd5'.open
  clear c30 c31 c32 c33 hd5
  have hx6 := hx5.alloc (.cells (dkCells a6 c6 a7 c7 (restartD d)).toArray 25)
  have B5 := Lib.hid (Box.new w5 (dkCells a6 c6 a7 c7 (restartD d)) 25)
  have HD5 := Lib.hid (hd5'.keep ((Ext.refl w5).alloc (.cells (dkCells a6 c6 a7 c7 (restartD d)).toArray 25)))
  have E0 := Lib.hid (D0.out.keep hx6); clear D0
  have E3 := Lib.hid (B3.out.keep hx6); clear B3
  have HE3 := Lib.hid (HD3.out.keep hx6); clear HD3
  have HE4 := Lib.hid (HS4.out.keep hx6); clear HS4
  have hE6 := hE4.trans hx6; clear hE4
  clear hd5' hx5 hx6
  go_upto_region 7 with fail
  generalize w5.alloc (.cells (dkCells a6 c6 a7 c7 (restartD d)).toArray 25) = w6 at *
  generalize w5.heap.size = n5 at *
  obtain ⟨c00, c01, c02, c03, -, -, -, -⟩ := E0.out.four
  obtain ⟨c30, c31, c32, c33, -, -, -, -⟩ := E3.out.four
  obtain ⟨c50, c51, c52, c53, -, -, -, -⟩ := B5.out.four
  have t1 : (restartD d).sectors = d.sectors := rfl
  have t2 : (restartD d).pending = [] := rfl
  have t3 : (restartD d).left = -1 := rfl
  have t4 : (restartD d).stopped = false := rfl
  have HT1 := Lib.hid t1
  rw [t1] at c30 c50
  rw [t2] at c31 c51
  rw [t3] at c32 c52
  rw [t4] at c33 c53
  clear t1 t2 t3 t4
  go_wp2_with fail
  refine (sameT w6 _ _ (restartD d) HE3.out HD5.out).mono ?_
  rintro e w7 ⟨rfl, hx7⟩
  have F0 := Lib.hid (E0.out.keep hx7); clear E0
  have F3 := Lib.hid (E3.out.keep hx7); clear E3
  have HF4 := Lib.hid (HE4.out.keep hx7); clear HE4
  have hE7 := hE6.trans hx7; clear hE6 hx7 B5 HE3 HD5
  clear c00 c01 c02 c03 c30 c31 c32 c33 c50 c51 c52 c53
  obtain ⟨c00, c01, c02, c03, -, -, -, -⟩ := F0.out.four
  obtain ⟨c30, c31, c32, c33, -, -, -, -⟩ := F3.out.four
  rw [HT1.out] at c30
  have HF4' := HF4.out
  rw [HT1.out] at HF4'
  have HG4 := Lib.hid HF4'; clear HF4' HF4
  have H17 := Lib.hid (H1.out.keep hE7)
  go_wp2_with fail
  go_loopw [11] (fun j wr => ∃ k m : Nat, k ≤ d.sectors.length ∧ j = .int .i64 k ∧ wr = w7.drewN m) (fun j _ => d.sectors.length - (intOf j).toNat)
  case atStart => exact ⟨0, 0, Nat.zero_le _, rfl, rfl⟩
  case round =>
    obtain ⟨k, m, hk, rfl, rfl⟩ := hrel
    by_cases hlt : k < d.sectors.length
    · obtain ⟨bb, oo, vd, rfl, hbb, x0, hv⟩ := H17.out.elem hlt
      obtain ⟨bb2, oo2, vd2, rfl, hbb2, x2, hv2⟩ := HG4.out.elem hlt
      obtain ⟨a8, c8, rfl, hc8, hm8⟩ := hv.open
      obtain ⟨a9, c9, rfl, hc9, hm9⟩ := hv2.open
      have kk1 := fun nq => conv_strN hv nq
      have kk2 := fun nq => conv_strN hv2 nq
      clear hv hv2
      generalize d.sectors[k] = x at *
      have hi1 : (k : Int) < d.sectors.length := by omega
      have hi0 : (0 : Int) ≤ k := by omega
      go_wp2_with fail
      go_quiet (fail)
      go_wp2_with fail
      go_roundw
      case rel => exact ⟨k + 1, _, by omega, by go_num, rfl⟩
      case measure => simp [intOf]; omega
    · obtain rfl : k = d.sectors.length := by omega
      clear c30 c31 c32 c33 F3 HG4
      generalize hw8 : w7.drewN m = w8 at *
      have hx8 : Ext w7 w8 := hw8 ▸ Ext.drewN w7 m
      have hE8 := hE7.trans hx8
      have G0 := Lib.hid (F0.out.keep hx8); clear F0
      clear hw8 hE7 hx8 H17 c00 c01 c02 c03
      obtain ⟨c00, c01, c02, c03, f00, f01, f02, f03⟩ := G0.out.four
      have hn0 : w.heap.size < w8.heap.size := G0.out.lt
      have hx9 : Ext w (w8.setCell ⟨w.heap.size, 3, none⟩ (.bool true)) := hE8.setCell (Nat.le_refl _) _
      have K0 : Box (w8.setCell ⟨w.heap.size, 3, none⟩ (.bool true)) w.heap.size [.slice a d.sectors.length c, .slice a2 d.pending.length c2, .int .i64 d.left, .bool true] := G0.out.set 3 (.bool true)
      have HK0 := Lib.hid K0; clear K0
      go_upto_region 15 with fail
      generalize w8.setCell ⟨w.heap.size, 3, none⟩ (.bool true) = w9 at *
      clear c00 c01 c02 c03 f00 f01 f02 f03 G0 hE8 hn0
      have HD : Hid (∀ W, Ext w W → Disk No W (.agg #[.slice a d.sectors.length c, .slice a2 d.pending.length c2, .int .i64 d.left, .bool true]) { d with stopped := true }) := Lib.hid fun W hX => ⟨_, _, rfl, H1.out.keep hX, H2.out.keep hX⟩
      obtain ⟨c00, c01, c02, c03, -, -, -, -⟩ := HK0.out.four
      go_wp2_with fail
      have k0 := read_ok w9 _ { d with stopped := true } i (HD.out _ hx9)
      rw [stopped_read] at k0
      refine k0.mono ?_
      clear k0
      rintro e w10 ⟨v10, rfl, hb10, hx10⟩
      have L0 := Lib.hid (HK0.out.keep hx10); clear HK0
      have hE10 := hx9.trans hx10; clear hx9 hx10 hb10 c00 c01 c02 c03
      obtain ⟨c00, c01, c02, c03, -, -, -, -⟩ := L0.out.four
      go_wp2_with fail
      have k0 := write_ok (S := No) w10 _ { d with stopped := true } i _ b (HD.out _ hE10) (HB.out.keep hE10) No.lt
      rw [stopped_write] at k0
      refine k0.mono ?_
      clear k0
      rintro e w11 ⟨v11, rfl, hb11, hx11⟩
      obtain ⟨a11, c11, a12, c12, rfl, -, -, -, -, -, -⟩ := hb11.open
      have hx12 := hx11.alloc (.cells (dkCells a11 c11 a12 c12 zeroD).toArray 25)
      have M0 := Lib.hid (L0.out.keep hx12); clear L0
      have hE12 := hE10.trans hx12; clear hE10 hx11 hx12 hb11 c00 c01 c02 c03
      go_upto_region 17 with fail
      generalize w11.alloc (.cells (dkCells a11 c11 a12 c12 zeroD).toArray 25) = w12 at *
      obtain ⟨c00, c01, c02, c03, -, -, -, -⟩ := M0.out.four
      go_wp2_with fail
      have k0 := sync_ok (S := No) w12 _ { d with stopped := true } (HD.out _ hE12) No.lt
      rw [stopped_sync] at k0
      refine k0.mono ?_
      clear k0
      rintro e w13 ⟨v13, rfl, hb13, hx13⟩
      obtain ⟨a13, c13, a14, c14, rfl, -, -, -, -, -, -⟩ := hb13.open
      have hx14 := hx13.alloc (.cells (dkCells a13 c13 a14 c14 zeroD).toArray 25)
      have N0 := Lib.hid (M0.out.keep hx14); clear M0
      have hE14 := hE12.trans hx14; clear hE12 hx13 hx14 hb13 c00 c01 c02 c03
      go_upto_region 18 with fail
      generalize w13.alloc (.cells (dkCells a13 c13 a14 c14 zeroD).toArray 25) = w14 at *
      obtain ⟨c00, c01, c02, c03, -, -, -, -⟩ := N0.out.four
      go_wp2_with fail
      have k0 := stop_ok w14 _ { d with stopped := true } left (HD.out _ hE14)
      rw [stopped_stop] at k0
      refine k0.mono ?_
      clear k0
      rintro e w15 ⟨v15, rfl, hb15, hx15⟩
      obtain ⟨a15, c15, a16, c16, rfl, -, -, -, -, -, -⟩ := hb15.open
      go_wp2_with fail
      go_ret
      exact ⟨rfl, (hE14.trans hx15).alloc _⟩
end Go.Proofs.Ytpciankfpagnhaa
