/- The law DiskSyncSpec returns true on every input. -/
import Derived.Test.YtpciankfpagnhaaD24
import Derived.Test.YtpciankfpagnhaaD26a
import Derived.Test.YtpciankfpagnhaaD19
namespace Go.Proofs.Ytpciankfpagnhaa
open Go.RowKit

set_option maxRecDepth 100000 in
set_option maxHeartbeats 2000000 in
theorem diskSyncSpec_ok (w : World) (v : Value) (d : Dk) (n : Int) (h : Disk No w v d) (hr : ReachD d) :
    Calls Try.prog 5 #[v, .int .i64 n] w fun e w' => e = .returned (.bool true) ∧ Ext w w' := by
  obtain ⟨a, c, a2, c2, rfl, -, -, -, -, -, -⟩ := h.open
  have H := Lib.hid h; clear h
  have HR := Lib.hid hr; clear hr
  go_enter Try.func5, Try.ntmps5
  go_wp2_with fail
  refine (sane41_ok _).mono ?_
  rintro e w1 ⟨rfl, hx⟩
  have hE := ((Ext.refl w).alloc _).trans hx
  have B0 := Lib.hid ((Box.new w _ _).keep hx)
  clear hx
  obtain ⟨c00, c01, c02, c03, -, -, -, -⟩ := B0.out.four
  go_wp2_with fail
  refine (few_ok _ _ d (H.out.keep hE) HR.out).mono ?_
  rintro e w2 ⟨rfl, hx⟩
  have C0 := Lib.hid (B0.out.keep hx); clear B0 c00 c01 c02 c03
  have hE2 := hE.trans hx
  clear hx hE
  cases hf : fewD d
  · go_wp2_with fail
    go_ret
    exact ⟨rfl, hE2⟩
  clear hf
  obtain ⟨c00, c01, c02, c03, -, -, -, -⟩ := C0.out.four
  go_wp2_with fail
  have k0 := sync_ok (S := No) w2 _ d (H.out.keep hE2) No.lt
  generalize hX : syncD d = X at *
  have Hx := Lib.hid hX; clear hX
  obtain ⟨x, xe⟩ := X
  refine k0.mono ?_
  clear k0 c00 c01 c02 c03
  rintro e w3 ⟨v3, rfl, hd, hx⟩
  obtain ⟨ax, cx, aax, ccx, rfl, -, -, -, -, -, -⟩ := hd.open
  have hx4 := hx.alloc (.cells (dkCells ax cx aax ccx x).toArray 25)
  have Bx := Lib.hid (Box.new w3 (dkCells ax cx aax ccx x) 25)
  have Dx := Lib.hid (hd.keep ((Ext.refl w3).alloc (.cells (dkCells ax cx aax ccx x).toArray 25)))
  have C3 := Lib.hid (C0.out.keep hx4); clear C0
  have hE3 := hE2.trans hx4; clear hE2
  clear hd hx hx4
  go_upto_region 6 with fail
  generalize w3.alloc (.cells (dkCells ax cx aax ccx x).toArray 25) = w4 at *
  generalize w3.heap.size = nx at *
  obtain ⟨c00, c01, c02, c03, -, -, -, -⟩ := C3.out.four
  go_wp2_with fail
  have k0 := refSync_ok (S := No) w4 _ d (H.out.keep hE3) No.lt
  rw [Hx.out] at k0
  refine k0.mono ?_
  clear k0 c00 c01 c02 c03
  rintro e w5 ⟨v5, rfl, hd, hx⟩
  obtain ⟨ay, cy, aay, ccy, rfl, -, -, -, -, -, -⟩ := hd.open
  have hx4 := hx.alloc (.cells (dkCells ay cy aay ccy x).toArray 25)
  have By := Lib.hid (Box.new w5 (dkCells ay cy aay ccy x) 25)
  have Dy := Lib.hid (hd.keep ((Ext.refl w5).alloc (.cells (dkCells ay cy aay ccy x).toArray 25)))
  have C5 := Lib.hid (C3.out.keep hx4); clear C3
  replace Bx := Lib.hid (Bx.out.keep hx4)
  replace Dx := Lib.hid (Dx.out.keep hx4)
  have hE5 := hE3.trans hx4; clear hE3
  clear hd hx hx4
  go_upto_region 7 with fail
  generalize w5.alloc (.cells (dkCells ay cy aay ccy x).toArray 25) = w6 at *
  generalize w5.heap.size = ny at *
  obtain ⟨c00, c01, c02, c03, -, -, -, -⟩ := C5.out.four
  go_wp2_with fail
  have k0 := stop_ok (S := No) w6 _ d n (H.out.keep hE5)
  generalize hX : stopD d n = X at *
  have Hz := Lib.hid hX; clear hX
  obtain ⟨z, ze⟩ := X
  refine k0.mono ?_
  clear k0 c00 c01 c02 c03
  rintro e w7 ⟨v7, rfl, hd, hx⟩
  obtain ⟨az, cz, aaz, ccz, rfl, -, -, -, -, -, -⟩ := hd.open
  have hx4 := hx.alloc (.cells (dkCells az cz aaz ccz z).toArray 25)
  have Bz := Lib.hid (Box.new w7 (dkCells az cz aaz ccz z) 25)
  have Dz := Lib.hid (hd.keep ((Ext.refl w7).alloc (.cells (dkCells az cz aaz ccz z).toArray 25)))
  have C7 := Lib.hid (C5.out.keep hx4); clear C5
  replace Bx := Lib.hid (Bx.out.keep hx4)
  replace Dx := Lib.hid (Dx.out.keep hx4)
  replace By := Lib.hid (By.out.keep hx4)
  replace Dy := Lib.hid (Dy.out.keep hx4)
  have hE7 := hE5.trans hx4; clear hE5
  clear hd hx hx4
  go_upto_region 8 with fail
  generalize w7.alloc (.cells (dkCells az cz aaz ccz z).toArray 25) = w8 at *
  generalize w7.heap.size = nz at *
  obtain ⟨c00, c01, c02, c03, -, -, -, -⟩ := C7.out.four
  go_wp2_with fail
  have k0 := refStop_ok (S := No) w8 _ d n (H.out.keep hE7)
  rw [Hz.out] at k0
  refine k0.mono ?_
  clear k0 c00 c01 c02 c03
  rintro e w9 ⟨v9, rfl, hd, hx⟩
  obtain ⟨au, cu, aau, ccu, rfl, -, -, -, -, -, -⟩ := hd.open
  have hx4 := hx.alloc (.cells (dkCells au cu aau ccu z).toArray 25)
  have Bu := Lib.hid (Box.new w9 (dkCells au cu aau ccu z) 25)
  have Du := Lib.hid (hd.keep ((Ext.refl w9).alloc (.cells (dkCells au cu aau ccu z).toArray 25)))
  have C9 := Lib.hid (C7.out.keep hx4); clear C7
  replace Bx := Lib.hid (Bx.out.keep hx4)
  replace Dx := Lib.hid (Dx.out.keep hx4)
  replace By := Lib.hid (By.out.keep hx4)
  replace Dy := Lib.hid (Dy.out.keep hx4)
  replace Bz := Lib.hid (Bz.out.keep hx4)
  replace Dz := Lib.hid (Dz.out.keep hx4)
  have hE9 := hE7.trans hx4; clear hE7
  clear hd hx hx4
  go_upto_region 9 with fail
  generalize w9.alloc (.cells (dkCells au cu aau ccu z).toArray 25) = w10 at *
  generalize w9.heap.size = nu at *
  obtain ⟨p0, p1, p2, p3, -, -, -, -⟩ := Bx.out.four
  obtain ⟨q0, q1, q2, q3, -, -, -, -⟩ := By.out.four
  have hxe : (xe == xe) = true := beq_self_eq_true _
  have hze : (ze == ze) = true := beq_self_eq_true _
  go_wp2_with fail
  refine (sameT _ _ _ x Dx.out Dy.out).mono ?_
  rintro e w20 ⟨rfl, hx⟩
  clear p0 p1 p2 p3 q0 q1 q2 q3
  obtain ⟨p0, p1, p2, p3, -, -, -, -⟩ := (Bz.out.keep hx).four
  obtain ⟨q0, q1, q2, q3, -, -, -, -⟩ := (Bu.out.keep hx).four
  go_wp2_with fail
  refine (sameT _ _ _ z (Dz.out.keep hx) (Du.out.keep hx)).mono ?_
  rintro e w21 ⟨rfl, hx2⟩
  go_wp2_with fail
  go_ret
  exact ⟨rfl, (hE9.trans hx).trans hx2⟩
end Go.Proofs.Ytpciankfpagnhaa
