/- sane of chapter 42's laws returns true. -/
import Derived.Test.YtpciankfpagnhaaJ20a
import Derived.Test.YtpciankfpagnhaaJ13
import Derived.Test.YtpciankfpagnhaaJ21
import Derived.Test.YtpciankfpagnhaaD17
import Derived.Lib.SlBytesConst
namespace Go.Proofs.Ytpciankfpagnhaa
open Go.RowKit

theorem conv35 (w : World) (C : Array Value) (n c : Nat) : (convert 35 35 (.slice (some ⟨w.heap.size, 0, none⟩) n c)).run Try.prog (w.alloc (.cells C 5)) = .ok (.slice (some ⟨w.heap.size, 0, none⟩) n c) (w.alloc (.cells C 5 (C.size, C.size + 1))) :=
  Lib.run_convert_bytes_const w 35 5 C n c (by kernel_rfl) (by kernel_rfl)
theorem two_marked {S : Nat → Prop} {w : World} {t : TypeId} {r : Nat × Nat} (x y : UInt8) (hS : ¬ S w.heap.size) : Bs S (w.alloc (.cells #[.int .u8 (x.toNat : Int), .int .u8 (y.toNat : Int)] t r)) (.slice (some ⟨w.heap.size, 0, none⟩) 2 2) [x, y] := by
  refine Bs.mk (l := [x, y]) ⟨by simp, hS⟩ (Nat.le_refl _) (by decide) fun j u hj => ?_
  obtain ⟨z, hz, rfl⟩ := bv_get hj
  have e := heap_alloc_new w (.cells #[.int .u8 (x.toNat : Int), .int .u8 (y.toNat : Int)] t r)
  simp only [World.cell?, e, Nat.zero_add]
  match j, hz with
  | 0, hz => simp at hz; subst hz; rfl
  | 1, hz => simp at hz; subst hz; rfl
  | j + 2, hz => simp at hz
set_option maxRecDepth 100000 in
set_option maxHeartbeats 4000000 in
theorem sane42_ok (w : World) : Calls Try.prog 36 #[] w fun e w' => e = .returned (.bool true) ∧ Ext w w' := by
  obtain ⟨D, C, L, X, Y, Z, e1, e2, e3, e4, e5, e6, e7, f1, f2, f3, f4, f5, f6⟩ := ex42
  have HE1 := Lib.hid e1; clear e1
  have HE2 := Lib.hid e2; clear e2
  have HE3 := Lib.hid e3; clear e3
  have HE4 := Lib.hid e4; clear e4
  have HE5 := Lib.hid e5; clear e5
  have HE6 := Lib.hid e6; clear e6
  have HE7 := Lib.hid e7; clear e7
  have HF1 := Lib.hid f1; clear f1
  have HF2 := Lib.hid f2; clear f2
  have HF3 := Lib.hid f3; clear f3
  have HF4 := Lib.hid f4; clear f4
  have HF5 := Lib.hid f5; clear f5
  have HF6 := Lib.hid f6; clear f6
  have hE0 := Ext.refl w
  have rL := Lib.hid (show ReachB L.records from fun b hb => by rw [HF1.out] at hb; cases hb)
  have rX := Lib.hid (show ReachB X.records from fun b hb => by rw [HF5.out, List.mem_singleton] at hb; subst hb; decide)
  have uX := Lib.hid (show usedN X.records ≤ 4611686018427387904 by rw [HF5.out]; decide)
  have nL := Lib.hid (show (L.records.length + 1) * 24 ≤ 140737488355328 by rw [HF1.out]; decide)
  go_enter Try.func36, Try.ntmps36
  go_wp2_with fail
  have k0 := new_ok (S := No) w 1 No.lt
  rw [HE1.out] at k0
  refine k0.mono ?_
  clear k0 
  rintro e w1 ⟨u0, rfl, hd0, hx⟩
  obtain ⟨ad, cd, bd, ed, rfl, -, -, -, -, -, -⟩ := hd0.open
  have hy := ((Ext.refl w1).alloc (.cells #[.slice ad D.sectors.length cd, .slice bd D.pending.length ed, .int .i64 D.left, .bool D.stopped] 25))
  have hx4 := hx.trans hy
  have Bd := Lib.hid (Box.new w1 [.slice ad D.sectors.length cd, .slice bd D.pending.length ed, .int .i64 D.left, .bool D.stopped] 25)
  have Dd := Lib.hid (hd0.keep hy)
  have hE1 := hE0.trans hx4; clear hE0
  clear hx hy hx4 hd0
  go_upto_region 2 with fail
  generalize w1.alloc (.cells #[.slice ad D.sectors.length cd, .slice bd D.pending.length ed, .int .i64 D.left, .bool D.stopped] 25) = w2 at *
  generalize w1.heap.size = nd at *
  obtain ⟨qd0, qd1, qd2, qd3, -, -, -, -⟩ := Bd.out.four
  go_wp2_with fail
  have k0 := open_ok (S := No) w2 _ D Dd.out No.lt
  rw [HE2.out] at k0
  refine k0.mono ?_
  clear k0 qd0 qd1 qd2 qd3
  rintro e w3 ⟨u0, rfl, hd0, hx⟩
  obtain ⟨al, cl, rfl, -, -, -⟩ := hd0.open
  have hy := ((Ext.refl w3).alloc (.cells #[.slice al L.records.length cl, .int .i64 L.many, .int .i64 L.synced] 55))
  have hx4 := hx.trans hy
  have Bl := Lib.hid (Box.new w3 [.slice al L.records.length cl, .int .i64 L.many, .int .i64 L.synced] 55)
  have Dl := Lib.hid (hd0.keep hy)
  replace Bd := Lib.hid (Bd.out.keep hx4)
  replace Dd := Lib.hid (Dd.out.keep hx4)
  have hE2 := hE1.trans hx4; clear hE1
  clear hx hy hx4 hd0
  go_upto_region 3 with fail
  generalize w3.alloc (.cells #[.slice al L.records.length cl, .int .i64 L.many, .int .i64 L.synced] 55) = w4 at *
  generalize w3.heap.size = nl at *
  go_cut [6] (fun jv wx => jv = .int .i64 2 ∧ Ext w4 wx)
  case first =>
    have K41 : Hid (∀ (W : World) (gg : Nat), Ext w4 W → W.heap[gg]? = some (.cells (zerosV 113) 5 (0, 0)) → Calls Try.prog 41 #[.agg #[.slice al L.records.length cl, .int .i64 L.many, .int .i64 L.synced], .slice (some ⟨gg, 0, none⟩) 113 113] W (JournalErr No W (zeroJ, 2))) := by
      refine Lib.hid fun W gg hx hg => ?_
      have := append_ok (S := No) W _ (.slice (some ⟨gg, 0, none⟩) 113 113) L (List.replicate 113 0) (Dl.out.keep hx) (Bs.whole (t := 5) (by rw [bv_zeros]; exact hg) (fun h => h) (by simp) (by simp) (by decide)) rL.out (by simp) (by intro _; simp) nL.out No.lt
      rwa [HE3.out] at this
    have hmk : ∀ W : World, (Instr.makeSlice 35 (.int .i64 113) (.int .i64 113)).run Try.prog W = .ok (.slice (some ⟨W.heap.size, 0, none⟩) 113 113) (W.alloc (.cells (zerosV 113) 5)) := fun W => by kernel_rfl
    obtain ⟨ql0, ql1, ql2, -, -, -⟩ := Bl.out.three
    go_region_held3 (fun w' : World => Ext w4 w' ∧ w'.cell? ⟨nl, 0, none⟩ = some (.slice al L.records.length cl) ∧ w'.cell? ⟨nl, 1, none⟩ = some (.int .i64 L.many) ∧ w'.cell? ⟨nl, 2, none⟩ = some (.int .i64 L.synced)) (refine ⟨?_, Ext.cell ?_ ql0, Ext.cell ?_ ql1, Ext.cell ?_ ql2⟩ <;> (repeat (first | exact Ext.refl _ | assumption | refine Ext.drew ?_ | refine Ext.alloc ?_ _ | refine Ext.setCell ?_ (by simp) _))) (first | (go_at_call 41; refine (K41.out _ _ (And.left ‹Ext w4 _ ∧ _›) (by first | exact heap_alloc_new _ _ | exact (Below.heap_alloc _ _ _ (by simp)).trans (heap_alloc_new _ _) | exact heap_last (by simp))).mono ?_; rintro e w6 ⟨v6, rfl, hd6, hx6⟩; obtain ⟨a6, c6, rfl, _, _, _⟩ := hd6.open; have hxx : Ext w4 w6 := Ext.trans (And.left ‹Ext w4 _ ∧ _›) hx6; have hcc := fun b o h => Ext.cellEq hx6 (b := b) (o := o) h; have hff := fun b o h => Ext.frozenEq hx6 (b := b) (o := o) h))
    all_goals (go_wp2_with fail; go_meet; exact ⟨rfl, And.left ‹Ext w4 _ ∧ _›⟩)
  case rest =>
    obtain ⟨rfl, hx⟩ := hcut
    replace Bd := Lib.hid (Bd.out.keep hx)
    replace Bl := Lib.hid (Bl.out.keep hx)
    replace Dd := Lib.hid (Dd.out.keep hx)
    replace Dl := Lib.hid (Dl.out.keep hx)
    have hE3 := hE2.trans hx; clear hE2
    clear hx
    generalize wc = wk at *
    have hcv := conv35
    obtain ⟨ql0, ql1, ql2, -, -, -⟩ := Bl.out.three
    go_wp2_with fail
    have k0 := append_ok (S := No) (wk.alloc (.cells #[.int .u8 97, .int .u8 98] 5 (2, 3))) _ _ L [97, 98] (Dl.out.keep ((Ext.refl wk).alloc _)) (two_marked 97 98 (fun h => h)) rL.out (by decide) (by intro _; decide) nL.out No.lt
    rw [HE4.out] at k0
    refine k0.mono ?_
    clear k0 ql0 ql1 ql2
    rintro e w5 ⟨u0, rfl, hd0, hx⟩
    obtain ⟨ax, cx, rfl, -, -, -⟩ := hd0.open
    have hy := ((Ext.refl w5).alloc (.cells #[.slice ax X.records.length cx, .int .i64 X.many, .int .i64 X.synced] 55))
    replace hx := Ext.trans ((Ext.refl wk).alloc (.cells #[.int .u8 97, .int .u8 98] 5 (2, 3))) hx
    have hx4 := hx.trans hy
    have Bx := Lib.hid (Box.new w5 [.slice ax X.records.length cx, .int .i64 X.many, .int .i64 X.synced] 55)
    have Dx := Lib.hid (hd0.keep hy)
    replace Bd := Lib.hid (Bd.out.keep hx4)
    replace Bl := Lib.hid (Bl.out.keep hx4)
    replace Dd := Lib.hid (Dd.out.keep hx4)
    replace Dl := Lib.hid (Dl.out.keep hx4)
    have hE4 := hE3.trans hx4; clear hE3
    clear hx hy hx4 hd0
    go_upto_region 5 with fail
    generalize w5.alloc (.cells #[.slice ax X.records.length cx, .int .i64 X.many, .int .i64 X.synced] 55) = w6 at *
    generalize w5.heap.size = nx at *
    obtain ⟨qx0, qx1, qx2, -, -, -⟩ := Bx.out.three
    obtain ⟨qd0, qd1, qd2, qd3, -, -, -, -⟩ := Bd.out.four
    go_wp2_with fail
    have k0 := journalSync_ok (S := No) w6 _ _ X D Dx.out Dd.out rX.out uX.out No.lt
    rw [HE5.out] at k0
    refine k0.mono ?_
    clear k0 qx0 qx1 qx2 qd0 qd1 qd2 qd3
    rintro e w7 ⟨u0, u1, rfl, hd0, hd1, hx⟩
    obtain ⟨ay, cy, rfl, -, -, -⟩ := hd0.open
    obtain ⟨ac, cc, bc, ec, rfl, -, -, -, -, -, -⟩ := hd1.open
    have hy := (((Ext.refl w7).alloc (.cells #[.slice ay Y.records.length cy, .int .i64 Y.many, .int .i64 Y.synced] 55)).alloc (.cells #[.slice ac C.sectors.length cc, .slice bc C.pending.length ec, .int .i64 C.left, .bool C.stopped] 25))
    have hx4 := hx.trans hy
    have By := Lib.hid ((Box.new w7 [.slice ay Y.records.length cy, .int .i64 Y.many, .int .i64 Y.synced] 55).past (.cells #[.slice ac C.sectors.length cc, .slice bc C.pending.length ec, .int .i64 C.left, .bool C.stopped] 25))
    have Dy := Lib.hid (hd0.keep hy)
    have Bc := Lib.hid (Box.at (w := w7.alloc (.cells #[.slice ay Y.records.length cy, .int .i64 Y.many, .int .i64 Y.synced] 55)) (b := w7.heap.size + 1) (cs := [.slice ac C.sectors.length cc, .slice bc C.pending.length ec, .int .i64 C.left, .bool C.stopped]) (t := 25) (by simp))
    have Dc := Lib.hid (hd1.keep hy)
    replace Bd := Lib.hid (Bd.out.keep hx4)
    replace Bl := Lib.hid (Bl.out.keep hx4)
    replace Bx := Lib.hid (Bx.out.keep hx4)
    replace Dd := Lib.hid (Dd.out.keep hx4)
    replace Dl := Lib.hid (Dl.out.keep hx4)
    replace Dx := Lib.hid (Dx.out.keep hx4)
    have hE5 := hE4.trans hx4; clear hE4
    clear hx hy hx4 hd0 hd1
    go_upto_region 6 with fail
    generalize (w7.alloc (.cells #[.slice ay Y.records.length cy, .int .i64 Y.many, .int .i64 Y.synced] 55)).alloc (.cells #[.slice ac C.sectors.length cc, .slice bc C.pending.length ec, .int .i64 C.left, .bool C.stopped] 25) = w8 at *
    generalize hnc : w7.heap.size + 1 = nc at *
    generalize hny : w7.heap.size = ny at *
    obtain ⟨qc0, qc1, qc2, qc3, -, -, -, -⟩ := Bc.out.four
    go_wp2_with fail
    have k0 := open_ok (S := No) w8 _ C Dc.out No.lt
    rw [HE6.out] at k0
    refine k0.mono ?_
    clear k0 qc0 qc1 qc2 qc3
    rintro e w9 ⟨u0, rfl, hd0, hx⟩
    obtain ⟨az, cz, rfl, -, -, -⟩ := hd0.open
    have hy := ((Ext.refl w9).alloc (.cells #[.slice az Z.records.length cz, .int .i64 Z.many, .int .i64 Z.synced] 55))
    have hx4 := hx.trans hy
    have Bz := Lib.hid (Box.new w9 [.slice az Z.records.length cz, .int .i64 Z.many, .int .i64 Z.synced] 55)
    have Dz := Lib.hid (hd0.keep hy)
    replace Bd := Lib.hid (Bd.out.keep hx4)
    replace Bl := Lib.hid (Bl.out.keep hx4)
    replace Bx := Lib.hid (Bx.out.keep hx4)
    replace By := Lib.hid (By.out.keep hx4)
    replace Bc := Lib.hid (Bc.out.keep hx4)
    replace Dd := Lib.hid (Dd.out.keep hx4)
    replace Dl := Lib.hid (Dl.out.keep hx4)
    replace Dx := Lib.hid (Dx.out.keep hx4)
    replace Dy := Lib.hid (Dy.out.keep hx4)
    replace Dc := Lib.hid (Dc.out.keep hx4)
    have hE6 := hE5.trans hx4; clear hE5
    clear hx hy hx4 hd0
    go_upto_region 7 with fail
    generalize w9.alloc (.cells #[.slice az Z.records.length cz, .int .i64 Z.many, .int .i64 Z.synced] 55) = w10 at *
    generalize w9.heap.size = nz at *
    obtain ⟨qx0, qx1, qx2, -, -, -⟩ := Bx.out.three
    obtain ⟨qc0, qc1, qc2, qc3, -, -, -, -⟩ := Bc.out.four
    go_wp2_with fail
    have k0 := journalSync_ok (S := No) w10 _ _ X C Dx.out Dc.out rX.out uX.out No.lt
    rw [HE7.out] at k0
    refine k0.mono ?_
    clear k0 qx0 qx1 qx2 qc0 qc1 qc2 qc3
    rintro e w11 ⟨u0, u1, rfl, hd0, hd1, hx⟩
    obtain ⟨ap, cp, rfl, -, -, -⟩ := hd0.open
    obtain ⟨aq, cq, bq, eq, rfl, -, -, -, -, -, -⟩ := hd1.open
    have hy := (((Ext.refl w11).alloc (.cells #[.slice ap zeroJ.records.length cp, .int .i64 zeroJ.many, .int .i64 zeroJ.synced] 55)).alloc (.cells #[.slice aq zeroD.sectors.length cq, .slice bq zeroD.pending.length eq, .int .i64 zeroD.left, .bool zeroD.stopped] 25))
    have hx4 := hx.trans hy
    have Bp := Lib.hid ((Box.new w11 [.slice ap zeroJ.records.length cp, .int .i64 zeroJ.many, .int .i64 zeroJ.synced] 55).past (.cells #[.slice aq zeroD.sectors.length cq, .slice bq zeroD.pending.length eq, .int .i64 zeroD.left, .bool zeroD.stopped] 25))
    have Dp := Lib.hid (hd0.keep hy)
    have Bq := Lib.hid (Box.at (w := w11.alloc (.cells #[.slice ap zeroJ.records.length cp, .int .i64 zeroJ.many, .int .i64 zeroJ.synced] 55)) (b := w11.heap.size + 1) (cs := [.slice aq zeroD.sectors.length cq, .slice bq zeroD.pending.length eq, .int .i64 zeroD.left, .bool zeroD.stopped]) (t := 25) (by simp))
    have Dq := Lib.hid (hd1.keep hy)
    replace Bd := Lib.hid (Bd.out.keep hx4)
    replace Bl := Lib.hid (Bl.out.keep hx4)
    replace Bx := Lib.hid (Bx.out.keep hx4)
    replace By := Lib.hid (By.out.keep hx4)
    replace Bc := Lib.hid (Bc.out.keep hx4)
    replace Bz := Lib.hid (Bz.out.keep hx4)
    replace Dd := Lib.hid (Dd.out.keep hx4)
    replace Dl := Lib.hid (Dl.out.keep hx4)
    replace Dx := Lib.hid (Dx.out.keep hx4)
    replace Dy := Lib.hid (Dy.out.keep hx4)
    replace Dc := Lib.hid (Dc.out.keep hx4)
    replace Dz := Lib.hid (Dz.out.keep hx4)
    have hE7 := hE6.trans hx4; clear hE6
    clear hx hy hx4 hd0 hd1
    go_upto_region 8 with fail
    generalize (w11.alloc (.cells #[.slice ap zeroJ.records.length cp, .int .i64 zeroJ.many, .int .i64 zeroJ.synced] 55)).alloc (.cells #[.slice aq zeroD.sectors.length cq, .slice bq zeroD.pending.length eq, .int .i64 zeroD.left, .bool zeroD.stopped] 25) = w12 at *
    generalize hnq : w11.heap.size + 1 = nq at *
    generalize hnp : w11.heap.size = np at *
    have l0 : ((L.records.length : Int) == 0) = true := by rw [HF1.out]; rfl
    have y1 : (Y.synced == 1) = true := by rw [HF3.out]; rfl
    have z1 : ((Z.records.length : Int) == 1) = true := by rw [HF4.out]; rfl
    have z2 : (0 : Int) < Z.records.length := by rw [HF4.out]; decide
    have z3 : 0 < Z.records.length := by omega
    obtain ⟨ql0, ql1, ql2, -, -, -⟩ := Bl.out.three
    go_wp2_with fail
    have k0 := room_ok (S := No) w12 _ L Dl.out rL.out
    rw [HF2.out] at k0
    refine k0.mono ?_
    clear k0 ql0 ql1 ql2
    rintro e w13 ⟨rfl, hx⟩
    replace Bd := Lib.hid (Bd.out.keep hx)
    replace Bl := Lib.hid (Bl.out.keep hx)
    replace Bx := Lib.hid (Bx.out.keep hx)
    replace By := Lib.hid (By.out.keep hx)
    replace Bc := Lib.hid (Bc.out.keep hx)
    replace Bz := Lib.hid (Bz.out.keep hx)
    replace Bp := Lib.hid (Bp.out.keep hx)
    replace Bq := Lib.hid (Bq.out.keep hx)
    replace Dd := Lib.hid (Dd.out.keep hx)
    replace Dl := Lib.hid (Dl.out.keep hx)
    replace Dx := Lib.hid (Dx.out.keep hx)
    replace Dy := Lib.hid (Dy.out.keep hx)
    replace Dc := Lib.hid (Dc.out.keep hx)
    replace Dz := Lib.hid (Dz.out.keep hx)
    replace Dp := Lib.hid (Dp.out.keep hx)
    replace Dq := Lib.hid (Dq.out.keep hx)
    have hE8 := hE7.trans hx; clear hE7
    clear hx
    obtain ⟨vz0, ez0, hbz⟩ := Dz.out
    cases ez0
    obtain ⟨bz, oz, vz, rfl, hbz1, hcz, hvz⟩ := hbz.elem (k := 0) z3
    have hz0 : Z.records[0] = [97, 98] := Option.some.inj ((List.getElem?_eq_getElem z3).symm.trans (by rw [HF4.out]; rfl))
    rw [hz0] at hvz
    obtain ⟨av, cv, rfl, -, -⟩ := hvz.open
    have kcv : (convert 35 9 (.slice av 2 cv)).run Try.prog w13 = .ok (.string ⟨#[97, 98]⟩) w13 := conv_str hvz
    have hcz' : w13.cell? ⟨bz, oz, none⟩ = some (.slice av 2 cv) := hcz
    clear hcz hz0 hbz hbz1
    obtain ⟨qy0, qy1, qy2, -, -, -⟩ := By.out.three
    obtain ⟨qz0, qz1, qz2, -, -, -⟩ := Bz.out.three
    have kz := chkJ_no (j := zeroJ) (by decide)
    go_wp2_with fail
    have k0 := checkJ_ok (S := No) w13 _ zeroJ (zeroJ_journal No w13) (fun b hb => by cases hb)
    rw [kz] at k0
    refine k0.mono ?_
    clear k0 
    rintro e w14 ⟨rfl, hx⟩
    replace Bd := Lib.hid (Bd.out.keep hx)
    replace Bl := Lib.hid (Bl.out.keep hx)
    replace Bx := Lib.hid (Bx.out.keep hx)
    replace By := Lib.hid (By.out.keep hx)
    replace Bc := Lib.hid (Bc.out.keep hx)
    replace Bz := Lib.hid (Bz.out.keep hx)
    replace Bp := Lib.hid (Bp.out.keep hx)
    replace Bq := Lib.hid (Bq.out.keep hx)
    replace Dd := Lib.hid (Dd.out.keep hx)
    replace Dl := Lib.hid (Dl.out.keep hx)
    replace Dx := Lib.hid (Dx.out.keep hx)
    replace Dy := Lib.hid (Dy.out.keep hx)
    replace Dc := Lib.hid (Dc.out.keep hx)
    replace Dz := Lib.hid (Dz.out.keep hx)
    replace Dp := Lib.hid (Dp.out.keep hx)
    replace Dq := Lib.hid (Dq.out.keep hx)
    have hE9 := hE8.trans hx; clear hE8
    clear hx
    go_wp2_with fail
    go_ret
    exact ⟨rfl, hE9⟩
end Go.Proofs.Ytpciankfpagnhaa
