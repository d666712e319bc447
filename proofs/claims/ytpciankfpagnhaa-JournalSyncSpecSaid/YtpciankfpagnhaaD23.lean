/- The law DiskWriteSpec returns true on every input. -/
import Derived.Test.YtpciankfpagnhaaD19
import Derived.Test.YtpciankfpagnhaaD17
import Derived.Test.YtpciankfpagnhaaD12
import Derived.Test.YtpciankfpagnhaaD13
namespace Go.Proofs.Ytpciankfpagnhaa
open Go.RowKit

/-- The cells of a disk's value. -/
abbrev dkCells (a : Option Addr) (c : Nat) (a2 : Option Addr) (c2 : Nat) (d : Dk) : List Value := [.slice a d.sectors.length c, .slice a2 d.pending.length c2, .int .i64 d.left, .bool d.stopped]

set_option maxRecDepth 100000 in
set_option maxHeartbeats 2000000 in
theorem diskWriteSpec_ok (w : World) (v : Value) (d : Dk) (i : Int) (vb : Value) (b : List UInt8) (h : Disk No w v d) (hb : Bs No w vb b) (hr : ReachD d) :
    Calls Try.prog 4 #[v, .int .i64 i, vb] w fun e w' => e = .returned (.bool true) ∧ Ext w w' := by
  obtain ⟨a, c, a2, c2, rfl, -, -, -, -, -, -⟩ := h.open
  obtain ⟨a3, c3, rfl, hc3, hm3⟩ := hb.open
  have H := Lib.hid h; clear h
  have HB := Lib.hid hb; clear hb
  have HR := Lib.hid hr; clear hr
  go_enter Try.func4, Try.ntmps4
  go_wp2_with fail
  refine (sane41_ok _).mono ?_
  rintro e w1 ⟨rfl, hx⟩
  have hE := ((Ext.refl w).alloc _).trans hx
  have B0 := Lib.hid ((Box.new w _ _).keep hx)
  clear hx
  obtain ⟨c00, c01, c02, c03, -, -, -, -⟩ := B0.out.four
  go_wp2_with fail
  refine (few_ok _ _ d (H.out.keep hE) HR.out).mono ?_
  rintro e w2 ⟨rfl, hx⟩
  have C0 := Lib.hid (B0.out.keep hx); clear B0 c00 c01 c02 c03
  have hE2 := hE.trans hx
  clear hx hE
  cases hf : fewD d
  · go_wp2_with fail
    go_ret
    exact ⟨rfl, hE2⟩
  by_cases hl : 1000 < b.length
  · have hl' : (1000 : Int) < (b.length : Int) := by omega
    go_wp2_with fail
    go_ret
    exact ⟨rfl, hE2⟩
  have hl' : ¬ (1000 : Int) < (b.length : Int) := by omega
  obtain ⟨c00, c01, c02, c03, -, -, -, -⟩ := C0.out.four
  go_wp2_with fail
  refine (write_ok (S := No) _ _ d i _ b (H.out.keep hE2) (HB.out.keep hE2) No.lt).mono ?_
  rintro e w3 ⟨v3, rfl, hd3, hx3⟩
  generalize hX : writeD d i b = X at *
  have HX := Lib.hid hX; clear hX
  obtain ⟨x, xe⟩ := X
  obtain ⟨a4, c4, a5, c5, rfl, -, -, -, -, -, -⟩ := hd3.open
  clear c00 c01 c02 c03
  have hx4 := hx3.alloc (.cells (dkCells a4 c4 a5 c5 x).toArray 25)
  have B3 := Lib.hid (Box.new w3 (dkCells a4 c4 a5 c5 x) 25)
  have HD3 := Lib.hid (hd3.keep ((Ext.refl w3).alloc (.cells (dkCells a4 c4 a5 c5 x).toArray 25)))
  have D0 := Lib.hid (C0.out.keep hx4); clear C0
  have hE4 := hE2.trans hx4; clear hE2
  clear hd3 hx3 hx4
  go_upto_region 6 with fail
  generalize w3.alloc (.cells (dkCells a4 c4 a5 c5 x).toArray 25) = w4 at *
  generalize w3.heap.size = n3 at *
  obtain ⟨c00, c01, c02, c03, -, -, -, -⟩ := D0.out.four
  go_wp2_with fail
  have k0 := refWrite_ok (S := No) w4 _ d i _ b (H.out.keep hE4) (HB.out.keep hE4) No.lt
  rw [HX.out] at k0
  refine k0.mono ?_
  clear k0 c00 c01 c02 c03
  rintro e w5 ⟨v5, rfl, hd5, hx5⟩
  obtain ⟨a6, c6, a7, c7, rfl, -, -, -, -, -, -⟩ := hd5.open
  have hx6 := hx5.alloc (.cells (dkCells a6 c6 a7 c7 x).toArray 25)
  have B5 := Lib.hid (Box.new w5 (dkCells a6 c6 a7 c7 x) 25)
  have HD5 := Lib.hid (hd5.keep ((Ext.refl w5).alloc (.cells (dkCells a6 c6 a7 c7 x).toArray 25)))
  have E0 := Lib.hid (D0.out.keep hx6); clear D0
  have E3 := Lib.hid (B3.out.keep hx6); clear B3
  have HE3 := Lib.hid (HD3.out.keep hx6); clear HD3
  have hE6 := hE4.trans hx6; clear hE4
  clear hd5 hx5 hx6
  go_upto_region 7 with fail
  generalize w5.alloc (.cells (dkCells a6 c6 a7 c7 x).toArray 25) = w6 at *
  generalize w5.heap.size = n5 at *
  obtain ⟨c00, c01, c02, c03, -, -, -, -⟩ := E0.out.four
  go_wp2_with fail
  refine (read_ok w6 _ d i (H.out.keep hE6)).mono ?_
  rintro e w7 ⟨v7, rfl, hb7, hx7⟩
  generalize hY : readD d i = Y at *
  have HY := Lib.hid hY; clear hY
  obtain ⟨y, ye⟩ := Y
  obtain ⟨a8, c8, rfl, -, -⟩ := hb7.open
  clear c00 c01 c02 c03
  have F0 := Lib.hid (E0.out.keep hx7); clear E0
  have F3 := Lib.hid (E3.out.keep hx7); clear E3
  have F5 := Lib.hid (B5.out.keep hx7); clear B5
  have HF3 := Lib.hid (HE3.out.keep hx7); clear HE3
  have HF5 := Lib.hid (HD5.out.keep hx7); clear HD5
  have hE7 := hE6.trans hx7; clear hE6 hx7
  have HB7 := Lib.hid hb7; clear hb7
  obtain ⟨c00, c01, c02, c03, -, -, -, -⟩ := F0.out.four
  go_wp2_with fail
  have k0 := refRead_ok w7 _ d i (H.out.keep hE7)
  rw [HY.out] at k0
  refine k0.mono ?_
  clear k0 c00 c01 c02 c03
  rintro e w8 ⟨v8, rfl, hb8, hx8⟩
  obtain ⟨a9, c9, rfl, -, -⟩ := hb8.open
  have G3 := Lib.hid (F3.out.keep hx8); clear F3 F0
  have G5 := Lib.hid (F5.out.keep hx8); clear F5
  have HG3 := Lib.hid (HF3.out.keep hx8); clear HF3
  have HG5 := Lib.hid (HF5.out.keep hx8); clear HF5
  have HB8 := Lib.hid (HB7.out.keep hx8); clear HB7
  have hE8 := hE7.trans hx8; clear hE7 hx8
  have HB9 := Lib.hid hb8; clear hb8
  obtain ⟨c30, c31, c32, c33, -, -, -, -⟩ := G3.out.four
  obtain ⟨c50, c51, c52, c53, -, -, -, -⟩ := G5.out.four
  go_wp2_with fail
  have k0 := same_ok w8 _ _ x x HG3.out HG5.out
  rw [decide_eq_true rfl] at k0
  refine k0.mono ?_
  clear k0
  rintro e w9 ⟨rfl, hx9⟩
  have k1 := conv_str (HB8.out.keep hx9)
  have k2 := conv_str (HB9.out.keep hx9)
  go_wp2_with fail
  go_ret
  exact ⟨rfl, hE8.trans hx9⟩
end Go.Proofs.Ytpciankfpagnhaa
