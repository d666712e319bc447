/- The law JournalOpenSpec returns true on every input. -/
import Derived.Test.YtpciankfpagnhaaJ28
import Derived.Test.YtpciankfpagnhaaJ25
import Derived.Test.YtpciankfpagnhaaJ15
namespace Go.Proofs.Ytpciankfpagnhaa
open Go.RowKit

set_option maxRecDepth 100000 in
set_option maxHeartbeats 2000000 in
theorem journalOpenSpec_ok (w : World) (v : Value) (d : Dk) (h : Disk No w v d) :
    Calls Try.prog 10 #[v] w fun e w' => e = .returned (.bool true) ∧ Ext w w' := by
  obtain ⟨ai, ci, bi, ei, rfl, -, -, -, -, -, -⟩ := h.open
  have hE0 := (Ext.refl w).alloc (.cells #[.slice ai d.sectors.length ci, .slice bi d.pending.length ei, .int .i64 d.left, .bool d.stopped] 25)
  have Di := Lib.hid (h.keep hE0); clear h
  have Bi := Lib.hid (Box.new w [.slice ai d.sectors.length ci, .slice bi d.pending.length ei, .int .i64 d.left, .bool d.stopped] 25)
  go_enter Try.func10, Try.ntmps10
  go_upto_region 1 with fail
  generalize w.alloc (.cells #[.slice ai d.sectors.length ci, .slice bi d.pending.length ei, .int .i64 d.left, .bool d.stopped] 25) = wa at *
  generalize w.heap.size = ni at *
  go_wp2_with fail
  have k0 := sane42_ok wa
  refine k0.mono ?_
  clear k0 
  rintro e w1 ⟨rfl, hx⟩
  replace Bi := Lib.hid (Bi.out.keep hx)
  replace Di := Lib.hid (Di.out.keep hx)
  have hE1 := hE0.trans hx; clear hE0
  clear hx
  obtain ⟨qi0, qi1, qi2, qi3, -, -, -, -⟩ := Bi.out.four
  go_wp2_with fail
  have k0 := few42_ok (S := No) w1 _ (.slice none 0 0) d [] Di.out (Sl.nil _ _ _ _) (fun b hb => by cases hb)
  refine k0.mono ?_
  clear k0 qi0 qi1 qi2 qi3
  rintro e w2 ⟨rfl, hx⟩
  replace Bi := Lib.hid (Bi.out.keep hx)
  replace Di := Lib.hid (Di.out.keep hx)
  have hE2 := hE1.trans hx; clear hE1
  clear hx
  generalize few42 d [] = bf
  cases bf
  · go_wp2_with fail
    go_ret
    exact ⟨rfl, hE2⟩
  obtain ⟨X, hX⟩ : ∃ X, openJ d = X := ⟨_, rfl⟩
  have HX := Lib.hid hX; clear hX
  obtain ⟨x, xe⟩ := X
  obtain ⟨qi0, qi1, qi2, qi3, -, -, -, -⟩ := Bi.out.four
  go_wp2_with fail
  have k0 := open_ok (S := No) w2 _ d Di.out No.lt
  rw [HX.out] at k0
  refine k0.mono ?_
  clear k0 qi0 qi1 qi2 qi3
  rintro e w3 ⟨u0, rfl, hd0, hx⟩
  obtain ⟨ax, cx, rfl, -, -, -⟩ := hd0.open
  have hy := ((Ext.refl w3).alloc (.cells #[.slice ax x.records.length cx, .int .i64 x.many, .int .i64 x.synced] 55))
  have hx4 := hx.trans hy
  have Bx := Lib.hid (Box.new w3 [.slice ax x.records.length cx, .int .i64 x.many, .int .i64 x.synced] 55)
  have Dx := Lib.hid (hd0.keep hy)
  replace Bi := Lib.hid (Bi.out.keep hx4)
  replace Di := Lib.hid (Di.out.keep hx4)
  have hE3 := hE2.trans hx4; clear hE2
  clear hx hy hx4 hd0
  go_upto_region 6 with fail
  generalize w3.alloc (.cells #[.slice ax x.records.length cx, .int .i64 x.many, .int .i64 x.synced] 55) = w4 at *
  generalize w3.heap.size = nx at *
  obtain ⟨qi0, qi1, qi2, qi3, -, -, -, -⟩ := Bi.out.four
  go_wp2_with fail
  have k0 := refOpen_ok (S := No) w4 _ d Di.out No.lt
  rw [HX.out] at k0
  refine k0.mono ?_
  clear k0 qi0 qi1 qi2 qi3
  rintro e w5 ⟨u0, rfl, hd0, hx⟩
  obtain ⟨ay, cy, rfl, -, -, -⟩ := hd0.open
  have hy := ((Ext.refl w5).alloc (.cells #[.slice ay x.records.length cy, .int .i64 x.many, .int .i64 x.synced] 55))
  have hx4 := hx.trans hy
  have By := Lib.hid (Box.new w5 [.slice ay x.records.length cy, .int .i64 x.many, .int .i64 x.synced] 55)
  have Dy := Lib.hid (hd0.keep hy)
  replace Bi := Lib.hid (Bi.out.keep hx4)
  replace Bx := Lib.hid (Bx.out.keep hx4)
  replace Di := Lib.hid (Di.out.keep hx4)
  replace Dx := Lib.hid (Dx.out.keep hx4)
  have hE4 := hE3.trans hx4; clear hE3
  clear hx hy hx4 hd0
  go_upto_region 7 with fail
  generalize w5.alloc (.cells #[.slice ay x.records.length cy, .int .i64 x.many, .int .i64 x.synced] 55) = w6 at *
  generalize w5.heap.size = ny at *
  have hxe : (xe == xe) = true := beq_self_eq_true _
  obtain ⟨qx0, qx1, qx2, -, -, -⟩ := Bx.out.three
  obtain ⟨qy0, qy1, qy2, -, -, -⟩ := By.out.three
  go_wp2_with fail
  have k0 := sameJ_ok w6 _ _ x x Dx.out Dy.out
  rw [decide_eq_true rfl] at k0
  refine k0.mono ?_
  clear k0 qx0 qx1 qx2 qy0 qy1 qy2
  rintro e w7 ⟨rfl, hx⟩
  replace Bi := Lib.hid (Bi.out.keep hx)
  replace Bx := Lib.hid (Bx.out.keep hx)
  replace By := Lib.hid (By.out.keep hx)
  replace Di := Lib.hid (Di.out.keep hx)
  replace Dx := Lib.hid (Dx.out.keep hx)
  replace Dy := Lib.hid (Dy.out.keep hx)
  have hE5 := hE4.trans hx; clear hE4
  clear hx
  go_wp2_with fail
  go_ret
  exact ⟨rfl, hE5⟩
end Go.Proofs.Ytpciankfpagnhaa
