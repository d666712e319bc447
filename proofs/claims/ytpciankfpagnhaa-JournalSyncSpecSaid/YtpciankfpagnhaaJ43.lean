/- The law JournalSyncSpec returns true on every input. -/
import Derived.Test.YtpciankfpagnhaaJ28
import Derived.Test.YtpciankfpagnhaaJ41
import Derived.Test.YtpciankfpagnhaaJ42
import Derived.Test.YtpciankfpagnhaaR4
import Derived.Test.YtpciankfpagnhaaD24
namespace Go.Proofs.Ytpciankfpagnhaa
open Go.RowKit

set_option maxRecDepth 100000 in
set_option maxHeartbeats 2000000 in
theorem journalSyncSpec_ok (w : World) (v : Value) (j : Jn) (vd : Value) (d : Dk) (h : Journal No w v j) (hd : Disk No w vd d) (hr : ReachR j.records) (_hrd : ReachD d) :
    Calls Try.prog 12 #[v, vd] w fun e w' => e = .returned (.bool true) ∧ Ext w w' := by
  obtain ⟨ai, ci, rfl, -, -, -⟩ := h.open
  obtain ⟨ad, cd, bd, ed, rfl, -, -, -, -, -, -⟩ := hd.open
  have HL := Lib.hid hr.1; clear hr
  have hE0 := ((Ext.refl w).alloc (.cells #[.slice ai j.records.length ci, .int .i64 j.many, .int .i64 j.synced] 55)).alloc (.cells #[.slice ad d.sectors.length cd, .slice bd d.pending.length ed, .int .i64 d.left, .bool d.stopped] 25)
  have Di := Lib.hid (h.keep hE0); clear h
  have Dd := Lib.hid (hd.keep hE0); clear hd
  have Bi := Lib.hid ((Box.new w [.slice ai j.records.length ci, .int .i64 j.many, .int .i64 j.synced] 55).past (.cells #[.slice ad d.sectors.length cd, .slice bd d.pending.length ed, .int .i64 d.left, .bool d.stopped] 25))
  have Bd := Lib.hid (Box.at (w := w.alloc (.cells #[.slice ai j.records.length ci, .int .i64 j.many, .int .i64 j.synced] 55)) (b := w.heap.size + 1) (cs := [.slice ad d.sectors.length cd, .slice bd d.pending.length ed, .int .i64 d.left, .bool d.stopped]) (t := 25) (by simp))
  go_enter Try.func12, Try.ntmps12
  go_upto_region 1 with fail
  generalize (w.alloc (.cells #[.slice ai j.records.length ci, .int .i64 j.many, .int .i64 j.synced] 55)).alloc (.cells #[.slice ad d.sectors.length cd, .slice bd d.pending.length ed, .int .i64 d.left, .bool d.stopped] 25) = wa at *
  generalize w.heap.size + 1 = nd at *
  generalize w.heap.size = ni at *
  go_wp2_with fail
  have k0 := sane42_ok wa
  refine k0.mono ?_
  clear k0 
  rintro e w1 ⟨rfl, hx⟩
  replace Bi := Lib.hid (Bi.out.keep hx)
  replace Bd := Lib.hid (Bd.out.keep hx)
  replace Di := Lib.hid (Di.out.keep hx)
  replace Dd := Lib.hid (Dd.out.keep hx)
  have hE1 := hE0.trans hx; clear hE0
  clear hx
  obtain ⟨vr, er, hbr⟩ := Di.out
  cases er
  obtain ⟨qi0, qi1, qi2, -, -, -⟩ := Bi.out.three
  obtain ⟨qd0, qd1, qd2, qd3, -, -, -, -⟩ := Bd.out.four
  go_wp2_with fail
  have k0 := few42_ok (S := No) (S2 := No) w1 _ _ d j.records Dd.out hbr HL.out
  refine k0.mono ?_
  clear k0 qi0 qi1 qi2 qd0 qd1 qd2 qd3
  rintro e w2 ⟨rfl, hx⟩
  replace Bi := Lib.hid (Bi.out.keep hx)
  replace Bd := Lib.hid (Bd.out.keep hx)
  replace Di := Lib.hid (Di.out.keep hx)
  replace Dd := Lib.hid (Dd.out.keep hx)
  have hE2 := hE1.trans hx; clear hE1
  clear hx
  clear hbr
  generalize few42 d j.records = bf
  cases bf
  · go_wp2_with fail
    go_ret
    exact ⟨rfl, hE2⟩
  obtain ⟨X, hX⟩ : ∃ X, syncJ j d = X := ⟨_, rfl⟩
  have HX := Lib.hid hX; clear hX
  obtain ⟨x, y, xe⟩ := X
  obtain ⟨qi0, qi1, qi2, -, -, -⟩ := Bi.out.three
  obtain ⟨qd0, qd1, qd2, qd3, -, -, -, -⟩ := Bd.out.four
  go_wp2_with fail
  have k0 := journalSync_all (S := No) w2 _ _ j d Di.out Dd.out HL.out No.lt
  rw [HX.out] at k0
  refine k0.mono ?_
  clear k0 qi0 qi1 qi2 qd0 qd1 qd2 qd3
  rintro e w3 ⟨u0, u1, rfl, hd0, hd1, hx⟩
  obtain ⟨ax, cx, rfl, -, -, -⟩ := hd0.open
  obtain ⟨ak, ck, bk, ek, rfl, -, -, -, -, -, -⟩ := hd1.open
  have hy := (((Ext.refl w3).alloc (.cells #[.slice ax x.records.length cx, .int .i64 x.many, .int .i64 x.synced] 55)).alloc (.cells #[.slice ak y.sectors.length ck, .slice bk y.pending.length ek, .int .i64 y.left, .bool y.stopped] 25))
  have hx4 := hx.trans hy
  have Bx := Lib.hid ((Box.new w3 [.slice ax x.records.length cx, .int .i64 x.many, .int .i64 x.synced] 55).past (.cells #[.slice ak y.sectors.length ck, .slice bk y.pending.length ek, .int .i64 y.left, .bool y.stopped] 25))
  have Dx := Lib.hid (hd0.keep hy)
  have Bk := Lib.hid (Box.at (w := w3.alloc (.cells #[.slice ax x.records.length cx, .int .i64 x.many, .int .i64 x.synced] 55)) (b := w3.heap.size + 1) (cs := [.slice ak y.sectors.length ck, .slice bk y.pending.length ek, .int .i64 y.left, .bool y.stopped]) (t := 25) (by simp))
  have Dk := Lib.hid (hd1.keep hy)
  replace Bi := Lib.hid (Bi.out.keep hx4)
  replace Bd := Lib.hid (Bd.out.keep hx4)
  replace Di := Lib.hid (Di.out.keep hx4)
  replace Dd := Lib.hid (Dd.out.keep hx4)
  have hE3 := hE2.trans hx4; clear hE2
  clear hx hy hx4 hd0 hd1
  go_upto_region 6 with fail
  generalize (w3.alloc (.cells #[.slice ax x.records.length cx, .int .i64 x.many, .int .i64 x.synced] 55)).alloc (.cells #[.slice ak y.sectors.length ck, .slice bk y.pending.length ek, .int .i64 y.left, .bool y.stopped] 25) = w4 at *
  generalize hnk : w3.heap.size + 1 = nk at *
  generalize hnx : w3.heap.size = nx at *
  obtain ⟨qi0, qi1, qi2, -, -, -⟩ := Bi.out.three
  obtain ⟨qd0, qd1, qd2, qd3, -, -, -, -⟩ := Bd.out.four
  go_wp2_with fail
  have k0 := refJSync_all (S := No) w4 _ _ j d Di.out Dd.out HL.out No.lt
  rw [HX.out] at k0
  refine k0.mono ?_
  clear k0 qi0 qi1 qi2 qd0 qd1 qd2 qd3
  rintro e w5 ⟨u0, u1, rfl, hd0, hd1, hx⟩
  obtain ⟨ap, cp, rfl, -, -, -⟩ := hd0.open
  obtain ⟨aq, cq, bq, eq, rfl, -, -, -, -, -, -⟩ := hd1.open
  have hy := (((Ext.refl w5).alloc (.cells #[.slice ap x.records.length cp, .int .i64 x.many, .int .i64 x.synced] 55)).alloc (.cells #[.slice aq y.sectors.length cq, .slice bq y.pending.length eq, .int .i64 y.left, .bool y.stopped] 25))
  have hx4 := hx.trans hy
  have Bp := Lib.hid ((Box.new w5 [.slice ap x.records.length cp, .int .i64 x.many, .int .i64 x.synced] 55).past (.cells #[.slice aq y.sectors.length cq, .slice bq y.pending.length eq, .int .i64 y.left, .bool y.stopped] 25))
  have Dp := Lib.hid (hd0.keep hy)
  have Bq := Lib.hid (Box.at (w := w5.alloc (.cells #[.slice ap x.records.length cp, .int .i64 x.many, .int .i64 x.synced] 55)) (b := w5.heap.size + 1) (cs := [.slice aq y.sectors.length cq, .slice bq y.pending.length eq, .int .i64 y.left, .bool y.stopped]) (t := 25) (by simp))
  have Dq := Lib.hid (hd1.keep hy)
  replace Bi := Lib.hid (Bi.out.keep hx4)
  replace Bd := Lib.hid (Bd.out.keep hx4)
  replace Bx := Lib.hid (Bx.out.keep hx4)
  replace Bk := Lib.hid (Bk.out.keep hx4)
  replace Di := Lib.hid (Di.out.keep hx4)
  replace Dd := Lib.hid (Dd.out.keep hx4)
  replace Dx := Lib.hid (Dx.out.keep hx4)
  replace Dk := Lib.hid (Dk.out.keep hx4)
  have hE4 := hE3.trans hx4; clear hE3
  clear hx hy hx4 hd0 hd1
  go_upto_region 7 with fail
  generalize (w5.alloc (.cells #[.slice ap x.records.length cp, .int .i64 x.many, .int .i64 x.synced] 55)).alloc (.cells #[.slice aq y.sectors.length cq, .slice bq y.pending.length eq, .int .i64 y.left, .bool y.stopped] 25) = w6 at *
  generalize hnq : w5.heap.size + 1 = nq at *
  generalize hnp : w5.heap.size = np at *
  have hxe : (xe == xe) = true := beq_self_eq_true _
  obtain ⟨qx0, qx1, qx2, -, -, -⟩ := Bx.out.three
  obtain ⟨qp0, qp1, qp2, -, -, -⟩ := Bp.out.three
  go_wp2_with fail
  have k0 := sameJ_ok w6 _ _ x x Dx.out Dp.out
  rw [decide_eq_true rfl] at k0
  refine k0.mono ?_
  clear k0 qx0 qx1 qx2 qp0 qp1 qp2
  rintro e w7 ⟨rfl, hx⟩
  replace Bi := Lib.hid (Bi.out.keep hx)
  replace Bd := Lib.hid (Bd.out.keep hx)
  replace Bx := Lib.hid (Bx.out.keep hx)
  replace Bk := Lib.hid (Bk.out.keep hx)
  replace Bp := Lib.hid (Bp.out.keep hx)
  replace Bq := Lib.hid (Bq.out.keep hx)
  replace Di := Lib.hid (Di.out.keep hx)
  replace Dd := Lib.hid (Dd.out.keep hx)
  replace Dx := Lib.hid (Dx.out.keep hx)
  replace Dk := Lib.hid (Dk.out.keep hx)
  replace Dp := Lib.hid (Dp.out.keep hx)
  replace Dq := Lib.hid (Dq.out.keep hx)
  have hE5 := hE4.trans hx; clear hE4
  clear hx
  obtain ⟨qk0, qk1, qk2, qk3, -, -, -, -⟩ := Bk.out.four
  obtain ⟨qq0, qq1, qq2, qq3, -, -, -, -⟩ := Bq.out.four
  go_wp2_with fail
  have k0 := sameT w7 _ _ y Dk.out Dq.out
  refine k0.mono ?_
  clear k0 qk0 qk1 qk2 qk3 qq0 qq1 qq2 qq3
  rintro e w8 ⟨rfl, hx⟩
  replace Bi := Lib.hid (Bi.out.keep hx)
  replace Bd := Lib.hid (Bd.out.keep hx)
  replace Bx := Lib.hid (Bx.out.keep hx)
  replace Bk := Lib.hid (Bk.out.keep hx)
  replace Bp := Lib.hid (Bp.out.keep hx)
  replace Bq := Lib.hid (Bq.out.keep hx)
  replace Di := Lib.hid (Di.out.keep hx)
  replace Dd := Lib.hid (Dd.out.keep hx)
  replace Dx := Lib.hid (Dx.out.keep hx)
  replace Dk := Lib.hid (Dk.out.keep hx)
  replace Dp := Lib.hid (Dp.out.keep hx)
  replace Dq := Lib.hid (Dq.out.keep hx)
  have hE6 := hE5.trans hx; clear hE5
  clear hx
  go_wp2_with fail
  go_ret
  exact ⟨rfl, hE6⟩
end Go.Proofs.Ytpciankfpagnhaa
