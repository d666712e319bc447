/- The law JournalSteps returns true on every input of small bulk. -/
import Derived.Test.YtpciankfpagnhaaJ35b
import Derived.Test.YtpciankfpagnhaaJ37
import Derived.Test.YtpciankfpagnhaaR4
import Derived.Test.YtpciankfpagnhaaD24
namespace Go.Proofs.Ytpciankfpagnhaa
open Go.RowKit

set_option maxRecDepth 100000 in
set_option maxHeartbeats 4000000 in
theorem journalSteps_ok (w : World) (va : Value) (la : List (List UInt8)) (vb : Value) (lb : List (List UInt8)) (ha : Bss No w va la) (hb : Bss No w vb lb) (sa : SmallR la) (sb : SmallR lb) :
    Calls Try.prog 15 #[va, vb] w fun e w' => e = .returned (.bool true) ∧ Ext w w' := by
  obtain ⟨D, C, X, Y, L, A, B, O, B2, T, M, N, e1, e2, e3, e4, e5, e6, e7, e8, e9, e10, e11, e12, e13, n1, n2, n3, n4, n5, n6⟩ := steps42 la lb
  have Q1 := Lib.hid e1; clear e1
  have Q2 := Lib.hid e2; clear e2
  have Q3 := Lib.hid e3; clear e3
  have Q4 := Lib.hid e4; clear e4
  have Q5 := Lib.hid e5; clear e5
  have Q6 := Lib.hid e6; clear e6
  have Q7 := Lib.hid e7; clear e7
  have Q8 := Lib.hid e8; clear e8
  have Q9 := Lib.hid e9; clear e9
  have Q10 := Lib.hid e10; clear e10
  have Q11 := Lib.hid e11; clear e11
  have Q12 := Lib.hid e12; clear e12
  have Q13 := Lib.hid e13; clear e13
  have N1 := Lib.hid n1; clear n1
  have N2 := Lib.hid n2; clear n2
  have N3 := Lib.hid n3; clear n3
  have N4 := Lib.hid n4; clear n4
  have N5 := Lib.hid n5; clear n5
  have N6 := Lib.hid n6; clear n6
  obtain ⟨aa, ca, rfl, hca, hma⟩ := ha.open
  obtain ⟨ab, cb, rfl, hcb, hmb⟩ := hb.open
  have hla := sa.len
  have hlb := sb.len
  have RA := Lib.hid sa.reach
  have RB := Lib.hid sb.reach
  have RAB : Hid (ReachB (la ++ lb)) := Lib.hid fun x hx => by rcases List.mem_append.1 hx with h | h; exact RA.out x h; exact RB.out x h
  clear sa sb
  have hE0 := Ext.refl w
  have Ha := Lib.hid ha; clear ha
  have Hb := Lib.hid hb; clear hb
  go_enter Try.func15, Try.ntmps15
  go_upto_region 1 with fail
  go_wp2_with fail
  have k0 := sane42_ok w
  refine k0.mono ?_
  clear k0 
  rintro e w1 ⟨rfl, hx⟩
  replace Ha := Lib.hid (Bss.keep Ha.out hx)
  replace Hb := Lib.hid (Bss.keep Hb.out hx)
  have hE1 := hE0.trans hx; clear hE0
  clear hx
  go_wp2_with fail
  have k0 := new_ok (S := No) w1 40 No.lt
  rw [Q1.out] at k0
  refine k0.mono ?_
  clear k0 
  rintro e w2 ⟨u0, rfl, hd0, hx⟩
  obtain ⟨ad, cd, bd, ed, rfl, -, -, -, -, -, -⟩ := hd0.open
  have hy := ((Ext.refl w2).alloc (.cells #[.slice ad D.sectors.length cd, .slice bd D.pending.length ed, .int .i64 D.left, .bool D.stopped] 25))
  have hx4 := hx.trans hy
  have Bd := Lib.hid (Box.new w2 [.slice ad D.sectors.length cd, .slice bd D.pending.length ed, .int .i64 D.left, .bool D.stopped] 25)
  have Dd := Lib.hid (hd0.keep hy)
  replace Ha := Lib.hid (Bss.keep Ha.out hx4)
  replace Hb := Lib.hid (Bss.keep Hb.out hx4)
  have hE2 := hE1.trans hx4; clear hE1
  clear hx hy hx4 hd0
  go_upto_region 4 with fail
  generalize w2.alloc (.cells #[.slice ad D.sectors.length cd, .slice bd D.pending.length ed, .int .i64 D.left, .bool D.stopped] 25) = w3 at *
  generalize w2.heap.size = nd at *
  obtain ⟨bf, hbf⟩ : ∃ bf, few42 D (la ++ lb) = bf := ⟨_, rfl⟩
  refine reg15_4 _ _ _ _ _ _ _ _ _ _ _ _ _ _ _ _ _ _ _ _ _ _ _ _ _ _ _ _ _ _ _ _ _ _ _ _ _ _ _ _ _ _ _ _ _ _ _ _ _ _ _ _ _ _ _ _ _ _ _ _ _ _ _ _ _ _ _ _ _ _ _ _ _ _ _ _ _ _ _ _ _ _ _ _ _ _ _ _ _ _ _ _ _ _ _ _ _ _ _ _ _ _ _ _ _ _ _ _ _ _ _ _ _ _ _ _ _ _ _ _ _ _ _ _ _ _ _ _ _ _ _ _ _ _ _ _ _ _ _ _ _ _ _ _ _ _ _ _ _ _ w3 nd ca cb cd ed aa ab ad bd D la lb bf (!bf) Bd.out Dd.out Ha.out Hb.out hla hlb RAB.out hbf rfl ?_
  intro u0 u1 u2 u3 u4 u5 u6 u7 u8 u9 u10 wf hx
  replace Bd := Lib.hid (Bd.out.keep hx)
  replace Dd := Lib.hid (Dd.out.keep hx)
  replace Ha := Lib.hid (Bss.keep Ha.out hx)
  replace Hb := Lib.hid (Bss.keep Hb.out hx)
  have hE3 := hE2.trans hx; clear hE2
  clear hx hbf
  cases bf
  · go_wp2_with fail
    go_ret
    exact ⟨rfl, hE3⟩
  obtain ⟨qd0, qd1, qd2, qd3, -, -, -, -⟩ := Bd.out.four
  go_wp2_with fail
  have k0 := open_ok (S := No) wf _ D Dd.out No.lt
  rw [Q2.out] at k0
  refine k0.mono ?_
  clear k0 qd0 qd1 qd2 qd3
  rintro e w4 ⟨u0, rfl, hd0, hx⟩
  obtain ⟨al, cl, rfl, -, -, -⟩ := hd0.open
  have hy := ((Ext.refl w4).alloc (.cells #[.slice al L.records.length cl, .int .i64 L.many, .int .i64 L.synced] 55))
  have hx4 := hx.trans hy
  have Bl := Lib.hid (Box.new w4 [.slice al L.records.length cl, .int .i64 L.many, .int .i64 L.synced] 55)
  have Dl := Lib.hid (hd0.keep hy)
  replace Bd := Lib.hid (Bd.out.keep hx4)
  replace Dd := Lib.hid (Dd.out.keep hx4)
  replace Ha := Lib.hid (Bss.keep Ha.out hx4)
  replace Hb := Lib.hid (Bss.keep Hb.out hx4)
  have hE4 := hE3.trans hx4; clear hE3
  clear hx hy hx4 hd0
  go_upto_region 8 with fail
  generalize w4.alloc (.cells #[.slice al L.records.length cl, .int .i64 L.many, .int .i64 L.synced] 55) = w5 at *
  generalize w4.heap.size = nl at *
  go_upto_region 10 with fail
  refine reg15_10 _ _ _ _ _ _ _ _ _ _ _ _ _ _ _ _ _ _ _ _ _ _ _ _ _ _ _ _ _ _ _ _ _ _ _ _ _ _ _ _ _ _ _ _ _ _ _ _ _ _ _ _ _ _ _ _ _ _ _ _ _ _ _ _ _ _ _ _ _ _ _ _ _ _ _ _ _ _ _ _ _ _ _ _ _ _ _ _ _ _ _ _ _ _ _ _ _ _ _ _ _ _ _ _ _ _ _ _ _ _ _ _ _ _ _ _ _ _ _ _ _ _ _ _ _ _ _ _ _ _ _ _ _ _ _ _ _ _ _ _ _ _ _ _ _ _ _ _ _ w5 nl nd cl cd ed ca cb al ad bd aa ab L A B T D C la lb Bl.out Bd.out Dl.out Dd.out Ha.out Hb.out N1.out N2.out N3.out RA.out RB.out Q3.out Q4.out Q5.out ?_
  intro u0 u1 u2 u3 u4 u5 u6 u7 u8 u9 u10 u11 u12 np nq ap aq bq cp cq eq wr10 hx hb1 hb2 hj1 hd2
  replace Bd := Lib.hid (Bd.out.keep hx)
  replace Bl := Lib.hid (Bl.out.keep hx)
  replace Dd := Lib.hid (Dd.out.keep hx)
  replace Dl := Lib.hid (Dl.out.keep hx)
  replace Ha := Lib.hid (Bss.keep Ha.out hx)
  replace Hb := Lib.hid (Bss.keep Hb.out hx)
  have hE5 := hE4.trans hx; clear hE4
  have Bp : Hid (Box wr10 np [.slice ap T.records.length cp, .int .i64 T.many, .int .i64 T.synced]) := Lib.hid hb1
  have Bq : Hid (Box wr10 nq [.slice aq C.sectors.length cq, .slice bq C.pending.length eq, .int .i64 C.left, .bool C.stopped]) := Lib.hid hb2
  have Dp : Hid (Journal No wr10 (.agg #[.slice ap T.records.length cp, .int .i64 T.many, .int .i64 T.synced]) T) := Lib.hid hj1
  have Dq : Hid (Disk No wr10 (.agg #[.slice aq C.sectors.length cq, .slice bq C.pending.length eq, .int .i64 C.left, .bool C.stopped]) C) := Lib.hid hd2
  clear hx hb1 hb2 hj1 hd2
  go_upto_region 11 with fail
  refine reg15_11 _ _ _ _ _ _ _ _ _ _ _ _ _ _ _ _ _ _ _ _ _ _ _ _ _ _ _ _ _ _ _ _ _ _ _ _ _ _ _ _ _ _ _ _ _ _ _ _ _ _ _ _ _ _ _ _ _ _ _ _ _ _ _ _ _ _ _ _ _ _ _ _ _ _ _ _ _ _ _ _ _ _ _ _ _ _ _ _ _ _ _ _ _ _ _ _ _ _ _ _ _ _ _ _ _ _ _ _ _ _ _ _ _ _ _ _ _ _ _ _ _ _ _ _ _ _ _ _ _ _ _ _ _ _ _ _ _ _ _ _ _ _ _ _ _ _ _ _ _ wr10 nl nd cl cd ed ca cb al ad bd aa ab L A O D X la lb Bl.out Bd.out Dl.out Dd.out Ha.out Hb.out N1.out N2.out RA.out RB.out Q3.out Q6.out ?_
  intro u0 u1 u2 u3 u4 u5 u6 u7 u8 u9 no nx ao ax bx co cx ex wr11 hx hb1 hb2 hj1 hd2
  replace Bd := Lib.hid (Bd.out.keep hx)
  replace Bl := Lib.hid (Bl.out.keep hx)
  replace Bp := Lib.hid (Bp.out.keep hx)
  replace Bq := Lib.hid (Bq.out.keep hx)
  replace Dd := Lib.hid (Dd.out.keep hx)
  replace Dl := Lib.hid (Dl.out.keep hx)
  replace Dp := Lib.hid (Dp.out.keep hx)
  replace Dq := Lib.hid (Dq.out.keep hx)
  replace Ha := Lib.hid (Bss.keep Ha.out hx)
  replace Hb := Lib.hid (Bss.keep Hb.out hx)
  have hE6 := hE5.trans hx; clear hE5
  have Bo : Hid (Box wr11 no [.slice ao O.records.length co, .int .i64 O.many, .int .i64 O.synced]) := Lib.hid hb1
  have Bx : Hid (Box wr11 nx [.slice ax X.sectors.length cx, .slice bx X.pending.length ex, .int .i64 X.left, .bool X.stopped]) := Lib.hid hb2
  have Do : Hid (Journal No wr11 (.agg #[.slice ao O.records.length co, .int .i64 O.many, .int .i64 O.synced]) O) := Lib.hid hj1
  have Dx : Hid (Disk No wr11 (.agg #[.slice ax X.sectors.length cx, .slice bx X.pending.length ex, .int .i64 X.left, .bool X.stopped]) X) := Lib.hid hd2
  clear hx hb1 hb2 hj1 hd2
  go_upto_region 12 with fail
  refine reg15_12 _ _ _ _ _ _ _ _ _ _ _ _ _ _ _ _ _ _ _ _ _ _ _ _ _ _ _ _ _ _ _ _ _ _ _ _ _ _ _ _ _ _ _ _ _ _ _ _ _ _ _ _ _ _ _ _ _ _ _ _ _ _ _ _ _ _ _ _ _ _ _ _ _ _ _ _ _ _ _ _ _ _ _ _ _ _ _ _ _ _ _ _ _ _ _ _ _ _ _ _ _ _ _ _ _ _ _ _ _ _ _ _ _ _ _ _ _ _ _ _ _ _ _ _ _ _ _ _ _ _ _ _ _ _ _ _ _ _ _ _ _ _ _ _ _ _ _ _ _ wr11 no nx co cx ex ca cb ao ax bx aa ab O B2 T X Y la lb Bo.out Bx.out Do.out Dx.out Ha.out Hb.out N4.out N5.out RA.out RB.out Q7.out Q8.out ?_
  intro u0 u1 u2 u3 u4 u5 u6 u7 u8 u9 nr nz ar az bz cr cz ez wr12 hx hb1 hb2 hj1 hd2
  replace Bd := Lib.hid (Bd.out.keep hx)
  replace Bl := Lib.hid (Bl.out.keep hx)
  replace Bp := Lib.hid (Bp.out.keep hx)
  replace Bq := Lib.hid (Bq.out.keep hx)
  replace Bo := Lib.hid (Bo.out.keep hx)
  replace Bx := Lib.hid (Bx.out.keep hx)
  replace Dd := Lib.hid (Dd.out.keep hx)
  replace Dl := Lib.hid (Dl.out.keep hx)
  replace Dp := Lib.hid (Dp.out.keep hx)
  replace Dq := Lib.hid (Dq.out.keep hx)
  replace Do := Lib.hid (Do.out.keep hx)
  replace Dx := Lib.hid (Dx.out.keep hx)
  replace Ha := Lib.hid (Bss.keep Ha.out hx)
  replace Hb := Lib.hid (Bss.keep Hb.out hx)
  have hE7 := hE6.trans hx; clear hE6
  have Br : Hid (Box wr12 nr [.slice ar T.records.length cr, .int .i64 T.many, .int .i64 T.synced]) := Lib.hid hb1
  have Bz : Hid (Box wr12 nz [.slice az Y.sectors.length cz, .slice bz Y.pending.length ez, .int .i64 Y.left, .bool Y.stopped]) := Lib.hid hb2
  have Dr : Hid (Journal No wr12 (.agg #[.slice ar T.records.length cr, .int .i64 T.many, .int .i64 T.synced]) T) := Lib.hid hj1
  have Dz : Hid (Disk No wr12 (.agg #[.slice az Y.sectors.length cz, .slice bz Y.pending.length ez, .int .i64 Y.left, .bool Y.stopped]) Y) := Lib.hid hd2
  clear hx hb1 hb2 hj1 hd2
  obtain ⟨qr0, qr1, qr2, -, -, -⟩ := Br.out.three
  obtain ⟨qz0, qz1, qz2, qz3, -, -, -, -⟩ := Bz.out.four
  go_wp2_with fail
  have k0 := journalSync_ok (S := No) wr12 _ _ T Y Dr.out Dz.out N6.out.reach N6.out.usedB No.lt
  rw [Q9.out] at k0
  refine k0.mono ?_
  clear k0 qr0 qr1 qr2 qz0 qz1 qz2 qz3
  rintro e w6 ⟨u0, u1, rfl, hd0, hd1, hx⟩
  obtain ⟨ak, ck, rfl, -, -, -⟩ := hd0.open
  obtain ⟨au, cu, bu, eu, rfl, -, -, -, -, -, -⟩ := hd1.open
  have hy := (((Ext.refl w6).alloc (.cells #[.slice ak T.records.length ck, .int .i64 T.many, .int .i64 T.synced] 55)).alloc (.cells #[.slice au Y.sectors.length cu, .slice bu Y.pending.length eu, .int .i64 Y.left, .bool Y.stopped] 25))
  have hx4 := hx.trans hy
  have Bk := Lib.hid ((Box.new w6 [.slice ak T.records.length ck, .int .i64 T.many, .int .i64 T.synced] 55).past (.cells #[.slice au Y.sectors.length cu, .slice bu Y.pending.length eu, .int .i64 Y.left, .bool Y.stopped] 25))
  have Dk := Lib.hid (hd0.keep hy)
  have Bu := Lib.hid (Box.at (w := w6.alloc (.cells #[.slice ak T.records.length ck, .int .i64 T.many, .int .i64 T.synced] 55)) (b := w6.heap.size + 1) (cs := [.slice au Y.sectors.length cu, .slice bu Y.pending.length eu, .int .i64 Y.left, .bool Y.stopped]) (t := 25) (by simp))
  have Du := Lib.hid (hd1.keep hy)
  replace Bd := Lib.hid (Bd.out.keep hx4)
  replace Bl := Lib.hid (Bl.out.keep hx4)
  replace Bp := Lib.hid (Bp.out.keep hx4)
  replace Bq := Lib.hid (Bq.out.keep hx4)
  replace Bo := Lib.hid (Bo.out.keep hx4)
  replace Bx := Lib.hid (Bx.out.keep hx4)
  replace Br := Lib.hid (Br.out.keep hx4)
  replace Bz := Lib.hid (Bz.out.keep hx4)
  replace Dd := Lib.hid (Dd.out.keep hx4)
  replace Dl := Lib.hid (Dl.out.keep hx4)
  replace Dp := Lib.hid (Dp.out.keep hx4)
  replace Dq := Lib.hid (Dq.out.keep hx4)
  replace Do := Lib.hid (Do.out.keep hx4)
  replace Dx := Lib.hid (Dx.out.keep hx4)
  replace Dr := Lib.hid (Dr.out.keep hx4)
  replace Dz := Lib.hid (Dz.out.keep hx4)
  replace Ha := Lib.hid (Bss.keep Ha.out hx4)
  replace Hb := Lib.hid (Bss.keep Hb.out hx4)
  have hE8 := hE7.trans hx4; clear hE7
  clear hx hy hx4 hd0 hd1
  go_upto_region 14 with fail
  generalize (w6.alloc (.cells #[.slice ak T.records.length ck, .int .i64 T.many, .int .i64 T.synced] 55)).alloc (.cells #[.slice au Y.sectors.length cu, .slice bu Y.pending.length eu, .int .i64 Y.left, .bool Y.stopped] 25) = w7 at *
  generalize hnu : w6.heap.size + 1 = nu at *
  generalize hnk : w6.heap.size = nk at *
  obtain ⟨qq0, qq1, qq2, qq3, -, -, -, -⟩ := Bq.out.four
  go_wp2_with fail
  have k0 := open_ok (S := No) w7 _ C Dq.out No.lt
  rw [Q10.out] at k0
  refine k0.mono ?_
  clear k0 qq0 qq1 qq2 qq3
  rintro e w8 ⟨u0, rfl, hd0, hx⟩
  obtain ⟨am, cm, rfl, -, -, -⟩ := hd0.open
  have hy := ((Ext.refl w8).alloc (.cells #[.slice am M.records.length cm, .int .i64 M.many, .int .i64 M.synced] 55))
  have hx4 := hx.trans hy
  have Bm := Lib.hid (Box.new w8 [.slice am M.records.length cm, .int .i64 M.many, .int .i64 M.synced] 55)
  have Dm := Lib.hid (hd0.keep hy)
  replace Bd := Lib.hid (Bd.out.keep hx4)
  replace Bl := Lib.hid (Bl.out.keep hx4)
  replace Bp := Lib.hid (Bp.out.keep hx4)
  replace Bq := Lib.hid (Bq.out.keep hx4)
  replace Bo := Lib.hid (Bo.out.keep hx4)
  replace Bx := Lib.hid (Bx.out.keep hx4)
  replace Br := Lib.hid (Br.out.keep hx4)
  replace Bz := Lib.hid (Bz.out.keep hx4)
  replace Bk := Lib.hid (Bk.out.keep hx4)
  replace Bu := Lib.hid (Bu.out.keep hx4)
  replace Dd := Lib.hid (Dd.out.keep hx4)
  replace Dl := Lib.hid (Dl.out.keep hx4)
  replace Dp := Lib.hid (Dp.out.keep hx4)
  replace Dq := Lib.hid (Dq.out.keep hx4)
  replace Do := Lib.hid (Do.out.keep hx4)
  replace Dx := Lib.hid (Dx.out.keep hx4)
  replace Dr := Lib.hid (Dr.out.keep hx4)
  replace Dz := Lib.hid (Dz.out.keep hx4)
  replace Dk := Lib.hid (Dk.out.keep hx4)
  replace Du := Lib.hid (Du.out.keep hx4)
  replace Ha := Lib.hid (Bss.keep Ha.out hx4)
  replace Hb := Lib.hid (Bss.keep Hb.out hx4)
  have hE9 := hE8.trans hx4; clear hE8
  clear hx hy hx4 hd0
  go_upto_region 15 with fail
  generalize w8.alloc (.cells #[.slice am M.records.length cm, .int .i64 M.many, .int .i64 M.synced] 55) = w9 at *
  generalize w8.heap.size = nm at *
  obtain ⟨qu0, qu1, qu2, qu3, -, -, -, -⟩ := Bu.out.four
  go_wp2_with fail
  have k0 := open_ok (S := No) w9 _ Y Du.out No.lt
  rw [Q11.out] at k0
  refine k0.mono ?_
  clear k0 qu0 qu1 qu2 qu3
  rintro e w10 ⟨u0, rfl, hd0, hx⟩
  obtain ⟨an, cn, rfl, -, -, -⟩ := hd0.open
  have hy := ((Ext.refl w10).alloc (.cells #[.slice an N.records.length cn, .int .i64 N.many, .int .i64 N.synced] 55))
  have hx4 := hx.trans hy
  have Bn := Lib.hid (Box.new w10 [.slice an N.records.length cn, .int .i64 N.many, .int .i64 N.synced] 55)
  have Dn := Lib.hid (hd0.keep hy)
  replace Bd := Lib.hid (Bd.out.keep hx4)
  replace Bl := Lib.hid (Bl.out.keep hx4)
  replace Bp := Lib.hid (Bp.out.keep hx4)
  replace Bq := Lib.hid (Bq.out.keep hx4)
  replace Bo := Lib.hid (Bo.out.keep hx4)
  replace Bx := Lib.hid (Bx.out.keep hx4)
  replace Br := Lib.hid (Br.out.keep hx4)
  replace Bz := Lib.hid (Bz.out.keep hx4)
  replace Bk := Lib.hid (Bk.out.keep hx4)
  replace Bu := Lib.hid (Bu.out.keep hx4)
  replace Bm := Lib.hid (Bm.out.keep hx4)
  replace Dd := Lib.hid (Dd.out.keep hx4)
  replace Dl := Lib.hid (Dl.out.keep hx4)
  replace Dp := Lib.hid (Dp.out.keep hx4)
  replace Dq := Lib.hid (Dq.out.keep hx4)
  replace Do := Lib.hid (Do.out.keep hx4)
  replace Dx := Lib.hid (Dx.out.keep hx4)
  replace Dr := Lib.hid (Dr.out.keep hx4)
  replace Dz := Lib.hid (Dz.out.keep hx4)
  replace Dk := Lib.hid (Dk.out.keep hx4)
  replace Du := Lib.hid (Du.out.keep hx4)
  replace Dm := Lib.hid (Dm.out.keep hx4)
  replace Ha := Lib.hid (Bss.keep Ha.out hx4)
  replace Hb := Lib.hid (Bss.keep Hb.out hx4)
  have hE10 := hE9.trans hx4; clear hE9
  clear hx hy hx4 hd0
  go_upto_region 16 with fail
  generalize w10.alloc (.cells #[.slice an N.records.length cn, .int .i64 N.many, .int .i64 N.synced] 55) = w11 at *
  generalize w10.heap.size = nn at *
  obtain ⟨qp0, qp1, qp2, -, -, -⟩ := Bp.out.three
  obtain ⟨qr0, qr1, qr2, -, -, -⟩ := Br.out.three
  go_wp2_with fail
  have k0 := sameJ_ok w11 _ _ T T Dp.out Dr.out
  rw [decide_eq_true rfl] at k0
  refine k0.mono ?_
  clear k0 qp0 qp1 qp2 qr0 qr1 qr2
  rintro e w12 ⟨rfl, hx⟩
  replace Bd := Lib.hid (Bd.out.keep hx)
  replace Bl := Lib.hid (Bl.out.keep hx)
  replace Bp := Lib.hid (Bp.out.keep hx)
  replace Bq := Lib.hid (Bq.out.keep hx)
  replace Bo := Lib.hid (Bo.out.keep hx)
  replace Bx := Lib.hid (Bx.out.keep hx)
  replace Br := Lib.hid (Br.out.keep hx)
  replace Bz := Lib.hid (Bz.out.keep hx)
  replace Bk := Lib.hid (Bk.out.keep hx)
  replace Bu := Lib.hid (Bu.out.keep hx)
  replace Bm := Lib.hid (Bm.out.keep hx)
  replace Bn := Lib.hid (Bn.out.keep hx)
  replace Dd := Lib.hid (Dd.out.keep hx)
  replace Dl := Lib.hid (Dl.out.keep hx)
  replace Dp := Lib.hid (Dp.out.keep hx)
  replace Dq := Lib.hid (Dq.out.keep hx)
  replace Do := Lib.hid (Do.out.keep hx)
  replace Dx := Lib.hid (Dx.out.keep hx)
  replace Dr := Lib.hid (Dr.out.keep hx)
  replace Dz := Lib.hid (Dz.out.keep hx)
  replace Dk := Lib.hid (Dk.out.keep hx)
  replace Du := Lib.hid (Du.out.keep hx)
  replace Dm := Lib.hid (Dm.out.keep hx)
  replace Dn := Lib.hid (Dn.out.keep hx)
  replace Ha := Lib.hid (Bss.keep Ha.out hx)
  replace Hb := Lib.hid (Bss.keep Hb.out hx)
  have hE11 := hE10.trans hx; clear hE10
  clear hx
  obtain ⟨qk0, qk1, qk2, -, -, -⟩ := Bk.out.three
  obtain ⟨qr0, qr1, qr2, -, -, -⟩ := Br.out.three
  go_wp2_with fail
  have k0 := sameJ_ok w12 _ _ T T Dk.out Dr.out
  rw [decide_eq_true rfl] at k0
  refine k0.mono ?_
  clear k0 qk0 qk1 qk2 qr0 qr1 qr2
  rintro e w13 ⟨rfl, hx⟩
  replace Bd := Lib.hid (Bd.out.keep hx)
  replace Bl := Lib.hid (Bl.out.keep hx)
  replace Bp := Lib.hid (Bp.out.keep hx)
  replace Bq := Lib.hid (Bq.out.keep hx)
  replace Bo := Lib.hid (Bo.out.keep hx)
  replace Bx := Lib.hid (Bx.out.keep hx)
  replace Br := Lib.hid (Br.out.keep hx)
  replace Bz := Lib.hid (Bz.out.keep hx)
  replace Bk := Lib.hid (Bk.out.keep hx)
  replace Bu := Lib.hid (Bu.out.keep hx)
  replace Bm := Lib.hid (Bm.out.keep hx)
  replace Bn := Lib.hid (Bn.out.keep hx)
  replace Dd := Lib.hid (Dd.out.keep hx)
  replace Dl := Lib.hid (Dl.out.keep hx)
  replace Dp := Lib.hid (Dp.out.keep hx)
  replace Dq := Lib.hid (Dq.out.keep hx)
  replace Do := Lib.hid (Do.out.keep hx)
  replace Dx := Lib.hid (Dx.out.keep hx)
  replace Dr := Lib.hid (Dr.out.keep hx)
  replace Dz := Lib.hid (Dz.out.keep hx)
  replace Dk := Lib.hid (Dk.out.keep hx)
  replace Du := Lib.hid (Du.out.keep hx)
  replace Dm := Lib.hid (Dm.out.keep hx)
  replace Dn := Lib.hid (Dn.out.keep hx)
  replace Ha := Lib.hid (Bss.keep Ha.out hx)
  replace Hb := Lib.hid (Bss.keep Hb.out hx)
  have hE12 := hE11.trans hx; clear hE11
  clear hx
  obtain ⟨vx, ex, hx1⟩ := Dm.out
  cases ex
  obtain ⟨vy, ey, hy1⟩ := Dn.out
  cases ey
  obtain ⟨qm0, qm1, qm2, -, -, -⟩ := Bm.out.three
  obtain ⟨qn0, qn1, qn2, -, -, -⟩ := Bn.out.three
  go_wp2_with fail
  have k0 := sameRecords_ok w13 _ _ M.records N.records hx1 hy1
  rw [decide_eq_true (Q12.out.trans Q13.out.symm)] at k0
  refine k0.mono ?_
  clear k0 hx1 hy1 qm0 qm1 qm2 qn0 qn1 qn2
  rintro e wqmn ⟨rfl, mmmn, rfl⟩
  have hx := Ext.drewN w13 mmmn
  replace Bd := Lib.hid (Bd.out.keep hx)
  replace Bl := Lib.hid (Bl.out.keep hx)
  replace Bp := Lib.hid (Bp.out.keep hx)
  replace Bq := Lib.hid (Bq.out.keep hx)
  replace Bo := Lib.hid (Bo.out.keep hx)
  replace Bx := Lib.hid (Bx.out.keep hx)
  replace Br := Lib.hid (Br.out.keep hx)
  replace Bz := Lib.hid (Bz.out.keep hx)
  replace Bk := Lib.hid (Bk.out.keep hx)
  replace Bu := Lib.hid (Bu.out.keep hx)
  replace Bm := Lib.hid (Bm.out.keep hx)
  replace Bn := Lib.hid (Bn.out.keep hx)
  replace Dd := Lib.hid (Dd.out.keep hx)
  replace Dl := Lib.hid (Dl.out.keep hx)
  replace Dp := Lib.hid (Dp.out.keep hx)
  replace Dq := Lib.hid (Dq.out.keep hx)
  replace Do := Lib.hid (Do.out.keep hx)
  replace Dx := Lib.hid (Dx.out.keep hx)
  replace Dr := Lib.hid (Dr.out.keep hx)
  replace Dz := Lib.hid (Dz.out.keep hx)
  replace Dk := Lib.hid (Dk.out.keep hx)
  replace Du := Lib.hid (Du.out.keep hx)
  replace Dm := Lib.hid (Dm.out.keep hx)
  replace Dn := Lib.hid (Dn.out.keep hx)
  replace Ha := Lib.hid (Bss.keep Ha.out hx)
  replace Hb := Lib.hid (Bss.keep Hb.out hx)
  have hE13 := hE12.trans hx; clear hE12
  clear hx
  generalize w13.drewN mmmn = wvmn at *
  obtain ⟨vx, ex, hx1⟩ := Dm.out
  cases ex
  obtain ⟨vy, ey, hy1⟩ := Dp.out
  cases ey
  obtain ⟨qm0, qm1, qm2, -, -, -⟩ := Bm.out.three
  obtain ⟨qp0, qp1, qp2, -, -, -⟩ := Bp.out.three
  go_wp2_with fail
  have k0 := sameRecords_ok wvmn _ _ M.records T.records hx1 hy1
  rw [decide_eq_true (Q12.out)] at k0
  refine k0.mono ?_
  clear k0 hx1 hy1 qm0 qm1 qm2 qp0 qp1 qp2
  rintro e wqmp ⟨rfl, mmmp, rfl⟩
  have hx := Ext.drewN wvmn mmmp
  replace Bd := Lib.hid (Bd.out.keep hx)
  replace Bl := Lib.hid (Bl.out.keep hx)
  replace Bp := Lib.hid (Bp.out.keep hx)
  replace Bq := Lib.hid (Bq.out.keep hx)
  replace Bo := Lib.hid (Bo.out.keep hx)
  replace Bx := Lib.hid (Bx.out.keep hx)
  replace Br := Lib.hid (Br.out.keep hx)
  replace Bz := Lib.hid (Bz.out.keep hx)
  replace Bk := Lib.hid (Bk.out.keep hx)
  replace Bu := Lib.hid (Bu.out.keep hx)
  replace Bm := Lib.hid (Bm.out.keep hx)
  replace Bn := Lib.hid (Bn.out.keep hx)
  replace Dd := Lib.hid (Dd.out.keep hx)
  replace Dl := Lib.hid (Dl.out.keep hx)
  replace Dp := Lib.hid (Dp.out.keep hx)
  replace Dq := Lib.hid (Dq.out.keep hx)
  replace Do := Lib.hid (Do.out.keep hx)
  replace Dx := Lib.hid (Dx.out.keep hx)
  replace Dr := Lib.hid (Dr.out.keep hx)
  replace Dz := Lib.hid (Dz.out.keep hx)
  replace Dk := Lib.hid (Dk.out.keep hx)
  replace Du := Lib.hid (Du.out.keep hx)
  replace Dm := Lib.hid (Dm.out.keep hx)
  replace Dn := Lib.hid (Dn.out.keep hx)
  replace Ha := Lib.hid (Bss.keep Ha.out hx)
  replace Hb := Lib.hid (Bss.keep Hb.out hx)
  have hE14 := hE13.trans hx; clear hE13
  clear hx
  generalize wvmn.drewN mmmp = wvmp at *
  obtain ⟨qz0, qz1, qz2, qz3, -, -, -, -⟩ := Bz.out.four
  obtain ⟨qu0, qu1, qu2, qu3, -, -, -, -⟩ := Bu.out.four
  go_wp2_with fail
  have k0 := sameT wvmp _ _ Y Dz.out Du.out
  refine k0.mono ?_
  clear k0 qz0 qz1 qz2 qz3 qu0 qu1 qu2 qu3
  rintro e w14 ⟨rfl, hx⟩
  replace Bd := Lib.hid (Bd.out.keep hx)
  replace Bl := Lib.hid (Bl.out.keep hx)
  replace Bp := Lib.hid (Bp.out.keep hx)
  replace Bq := Lib.hid (Bq.out.keep hx)
  replace Bo := Lib.hid (Bo.out.keep hx)
  replace Bx := Lib.hid (Bx.out.keep hx)
  replace Br := Lib.hid (Br.out.keep hx)
  replace Bz := Lib.hid (Bz.out.keep hx)
  replace Bk := Lib.hid (Bk.out.keep hx)
  replace Bu := Lib.hid (Bu.out.keep hx)
  replace Bm := Lib.hid (Bm.out.keep hx)
  replace Bn := Lib.hid (Bn.out.keep hx)
  replace Dd := Lib.hid (Dd.out.keep hx)
  replace Dl := Lib.hid (Dl.out.keep hx)
  replace Dp := Lib.hid (Dp.out.keep hx)
  replace Dq := Lib.hid (Dq.out.keep hx)
  replace Do := Lib.hid (Do.out.keep hx)
  replace Dx := Lib.hid (Dx.out.keep hx)
  replace Dr := Lib.hid (Dr.out.keep hx)
  replace Dz := Lib.hid (Dz.out.keep hx)
  replace Dk := Lib.hid (Dk.out.keep hx)
  replace Du := Lib.hid (Du.out.keep hx)
  replace Dm := Lib.hid (Dm.out.keep hx)
  replace Dn := Lib.hid (Dn.out.keep hx)
  replace Ha := Lib.hid (Bss.keep Ha.out hx)
  replace Hb := Lib.hid (Bss.keep Hb.out hx)
  have hE15 := hE14.trans hx; clear hE14
  clear hx
  go_wp2_with fail
  go_ret
  exact ⟨rfl, hE15⟩
end Go.Proofs.Ytpciankfpagnhaa
