/- What journal.Sync does, whatever the records' sectors add up to. -/
import Derived.Test.YtpciankfpagnhaaJ20a
import Derived.Test.YtpciankfpagnhaaJ38
namespace Go.Proofs.Ytpciankfpagnhaa
open Go.RowKit

/-- How far the loop over a record's pieces can be. -/
def PB (d : Dk) (av nv : Value) : Prop := ∃ m q : Nat, nv = .int .i64 (m : Int) ∧ m ≤ 140737488355328 ∧ av = .int .i64 (q : Int) ∧ q ≤ d.sectors.length
theorem PB.open {d : Dk} {n at1 : Nat} (h : PB d (.int .i64 (at1 : Int)) (.int .i64 (n : Int))) : n ≤ 140737488355328 ∧ at1 ≤ d.sectors.length := by
  obtain ⟨m, q, h1, h2, h3, h4⟩ := h
  injection h1 with _ h1
  injection h3 with _ h3
  exact ⟨by omega, by omega⟩
theorem PB.step {d : Dk} {n at1 : Nat} {m : Int} (hm : m = (n : Int)) (hn : n ≤ 140737488355328) (hat : at1 < d.sectors.length) : PB d (.int .i64 ((at1 : Int) + 1)) (.int .i64 m) :=
  ⟨n, at1 + 1, by rw [hm], hn, by rw [Int.natCast_add]; rfl, hat⟩

set_option maxRecDepth 100000 in
set_option maxHeartbeats 4000000 in
theorem reg47_33E {Q : Exit → Act → World → Prop} {S : Nat → Prop} (t0 t1 t2 t4 t5 t6 t7 t8 t9 t11 t12 t14 t17 t19 t20 t21 t22 t23 t24 t25 t26 t27 t28 t29 t30 t31 t32 t33 t34 t35 t36 t37 t38 t39 t40 t41 t42 t43 t44 t45 t46 t47 t48 t49 t50 t51 t52 t53 t54 t55 t56 t57 t58 t59 t60 t61 t62 t63 t64 t65 t66 t67 t68 t69 t70 t71 t72 t73 t74 t75 t76 t77 t78 t79 t80 t81 t82 t83 t84 t85 t86 t87 t88 t89 t90 t91 t92 t93 t94 t95 t96 t97 t98 t99 t100 t101 t102 t103 t104 t105 t106 t107 t108 t109 t110 t111 t112 t113 t114 t115 t116 t117 t118 t119 t120 t121 t122 t123 t124 t125 t126 t127 t128 t129 t130 t131 t132 t133 t134 t135 t136 t137 t138 t139 t140 t141 t142 t143 t144 t145 t146 t147 t148 t149 t150 t151 t152 t153 t154 t155 t156 t157 t158 t159 t160 t161 t162 t163 t164 t165 t166 : Value) (w1 : World) (g3 g at_ nB cB kb : Nat) (kd : UInt8) (aB a a2 : Option Addr) (c c2 : Nat) (d d' : Dk) (er : Int) (p : List UInt8)
    (hB : Box w1 g3 [.slice a d.sectors.length c, .slice a2 d.pending.length c2, .int .i64 d.left, .bool d.stopped]) (hd : Disk S w1 (.agg #[.slice a d.sectors.length c, .slice a2 d.pending.length c2, .int .i64 d.left, .bool d.stopped]) d) (hp : Bs S w1 (.slice aB kb cB) p) (hpl : p.length ≤ 112) (hkb : kb ≤ nB) (hnc : nB ≤ cB) (hg : g < 4294967296) (hat : at_ ≤ 4096) (hwd : writeD d at_ (sect g at_ kd p) = (d', er)) (hS : ∀ k, S k → k < w1.heap.size) (hS3 : S g3)
    (hQ : ∀ (u128 u129 u130 u131 u132 u133 u134 u135 u136 u137 u127 u138 u139 : Value) (wx : World), ∀ (w9 : World) (a' : Option Addr) (c' : Nat) (a2' : Option Addr) (c2' : Nat), Ext w1 w9 → Only g3 w9 wx → Box wx g3 [.slice a' d'.sectors.length c', .slice a2' d'.pending.length c2', .int .i64 d'.left, .bool d'.stopped] → Disk S wx (.agg #[.slice a' d'.sectors.length c', .slice a2' d'.pending.length c2', .int .i64 d'.left, .bool d'.stopped]) d' → Q .normal ⟨#[t0, t1, t2, .pointer (some ⟨g3, 0, none⟩), t4, t5, .int .i64 er, t7, t8, t9, .int .u64 (g : Int), t11, t12, .int .i64 (at_ : Int), t14, .slice aB nB cB, .int .u8 (kd.toNat : Int), t17, .int .i64 (kb : Int), t19, t20, t21, t22, t23, t24, t25, t26, t27, t28, t29, t30, t31, t32, t33, t34, t35, t36, t37, t38, t39, t40, t41, t42, t43, t44, t45, t46, t47, t48, t49, t50, t51, t52, t53, t54, t55, t56, t57, t58, t59, t60, t61, t62, t63, t64, t65, t66, t67, t68, t69, t70, t71, t72, t73, t74, t75, t76, t77, t78, t79, t80, t81, t82, t83, t84, t85, t86, t87, t88, t89, t90, t91, t92, t93, t94, t95, t96, t97, t98, t99, t100, t101, t102, t103, t104, t105, t106, t107, t108, t109, t110, t111, t112, t113, t114, t115, t116, t117, t118, t119, t120, t121, t122, t123, t124, t125, t126, u127, u128, u129, u130, u131, u132, u133, u134, u135, u136, u137, u138, u139, t140, t141, t142, t143, t144, t145, t146, t147, t148, t149, t150, t151, t152, t153, t154, t155, t156, t157, t158, t159, t160, t161, t162, t163, t164, t165, t166], []⟩ wx) :
    Code.wp Try.prog code47_33 Q ⟨#[t0, t1, t2, .pointer (some ⟨g3, 0, none⟩), t4, t5, t6, t7, t8, t9, .int .u64 (g : Int), t11, t12, .int .i64 (at_ : Int), t14, .slice aB nB cB, .int .u8 (kd.toNat : Int), t17, .int .i64 (kb : Int), t19, t20, t21, t22, t23, t24, t25, t26, t27, t28, t29, t30, t31, t32, t33, t34, t35, t36, t37, t38, t39, t40, t41, t42, t43, t44, t45, t46, t47, t48, t49, t50, t51, t52, t53, t54, t55, t56, t57, t58, t59, t60, t61, t62, t63, t64, t65, t66, t67, t68, t69, t70, t71, t72, t73, t74, t75, t76, t77, t78, t79, t80, t81, t82, t83, t84, t85, t86, t87, t88, t89, t90, t91, t92, t93, t94, t95, t96, t97, t98, t99, t100, t101, t102, t103, t104, t105, t106, t107, t108, t109, t110, t111, t112, t113, t114, t115, t116, t117, t118, t119, t120, t121, t122, t123, t124, t125, t126, t127, t128, t129, t130, t131, t132, t133, t134, t135, t136, t137, t138, t139, t140, t141, t142, t143, t144, t145, t146, t147, t148, t149, t150, t151, t152, t153, t154, t155, t156, t157, t158, t159, t160, t161, t162, t163, t164, t165, t166], []⟩ w1 := by
  conv => arg 2; whnf
  refine wp_only ?_
  have HQ := Lib.hid hQ; clear hQ
  have HD := Lib.hid hd; clear hd
  have HP := Lib.hid hp; clear hp
  have HWD := Lib.hid hwd; clear hwd
  have HS := Lib.hid hS; clear hS
  have HB := Lib.hid hB
  obtain ⟨c0, c1, c2', c3, y0, y1, y2, y3⟩ := hB.four
  clear hB
  have i1 : (kb : Int) ≤ nB := by omega
  have i2 : (kb : Int) ≤ cB := by omega
  have i3 : (0 : Int) ≤ kb := by omega
  have K74 : Hid (∀ W, Ext w1 W → Calls Try.prog 74 #[.int .u64 (g : Int), .int .i64 (at_ : Int), .int .u8 (kd.toNat : Int), .slice aB kb cB] W fun e w' => ∃ v', e = .returned v' ∧ Bs S w' v' (sect g at_ kd p) ∧ Ext W w') :=
    fun W hx => encode_ok (S := S) W g at_ kd _ p (by omega) (by omega) (HP.out.keep hx) hpl (fun k hk => Nat.lt_of_lt_of_le (HS.out k hk) hx.size)
  have K26 : Hid (∀ W v, Ext w1 W → Bs S W v (sect g at_ kd p) → Calls Try.prog 26 #[(.agg #[.slice a d.sectors.length c, .slice a2 d.pending.length c2, .int .i64 d.left, .bool d.stopped]), .int .i64 (at_ : Int), v] W (DiskErr S W (d', er))) := fun W v hx hb => by
    have := write_ok (S := S) W _ d at_ v (sect g at_ kd p) (HD.out.keep hx) hb (fun k hk => Nat.lt_of_lt_of_le (HS.out k hk) hx.size)
    rwa [HWD.out] at this
  go_region_with (first
    | (go_at_call 74; refine (K74.out _ (by repeat (first | exact Ext.refl _ | refine Ext.drew ?_))).mono ?_; rintro e w2 ⟨v2, rfl, hd2, hx2⟩; obtain ⟨a9, c9, rfl, _, _⟩ := hd2.open; have hxx : Ext w1 w2 := Ext.trans (by repeat (first | exact Ext.refl _ | refine Ext.drew ?_)) hx2; have q0 := hxx.cell c0; have q1 := hxx.cell c1; have q2 := hxx.cell c2'; have q3 := hxx.cell c3)
    | (go_at_call 26; refine (K26.out _ _ ‹Ext w1 _› ‹Bs S _ _ (sect g at_ kd p)›).mono ?_; rintro e w3 ⟨v3, rfl, hd3, hx3⟩; obtain ⟨a', c', a2', c2'', rfl, _, _, _, _, _, _⟩ := hd3.open; have hyy : Ext w1 w3 := Ext.trans ‹Ext w1 _› hx3; obtain ⟨z0, z1, z2, z3, x0, x1, x2, x3⟩ := (HB.out.keep hyy).four))
  all_goals
    dsimp only [onlyN]
    simp only [List.getElem_toArray, List.getElem_cons_succ, List.getElem_cons_zero, Act.put, List.setIfInBounds_toArray, List.set_cons_zero, List.set_cons_succ]
    generalize hW : World.setCell _ _ _ = wx
    obtain ⟨hbx, ho⟩ := box_set4 (HB.out.keep hyy) hW
    exact HQ.out _ _ _ _ _ _ _ _ _ _ _ _ _ wx w3 a' c' a2' c2'' hyy ho hbx (Disk.keepM hd3 (ho.mem hS3))
set_option maxRecDepth 100000 in
set_option maxHeartbeats 8000000 in
theorem journalSync_all {S : Nat → Prop} (w : World) (v vd : Value) (j : Jn) (d : Dk) (h : Journal S w v j) (hd : Disk S w vd d) (hl : ReachB j.records) (hS : ∀ k, S k → k < w.heap.size) :
    Calls Try.prog 47 #[v, vd] w (SyncErr S w (syncJ j d)) := by
  obtain ⟨aJ, cJ, rfl, hcJ, hmJ, hj1⟩ := h.open
  obtain ⟨a, c, a2, c2, rfl, hc, hm, hc2, hm2, hd1, hd2⟩ := hd.open
  have HJ := Lib.hid h; clear h
  have HJ1 := Lib.hid hj1; clear hj1
  have HD := Lib.hid hd; clear hd hd2
  have HD1 := Lib.hid hd1; clear hd1
  have HL := Lib.hid hl; clear hl
  have HS := Lib.hid hS; clear hS
  go_enter Try.func47, Try.ntmps47
  go_wp2_with fail
  refine (checkJ_ok _ _ j (HJ.out.keep ((((Ext.refl _).alloc _).alloc _).alloc _ |>.alloc _)) HL.out).mono ?_
  rintro e w1 ⟨rfl, hx⟩
  have hE := ((((Ext.refl w).alloc _).alloc _).alloc _ |>.alloc _).trans hx
  have B2 := Lib.hid ((((Box.new w _ _).past _).past _).past _ |>.keep hx)
  have B3 := Lib.hid (((Box.at (b := w.heap.size + 1) (by simp)).past _).past _ |>.keep hx)
  have B4 := Lib.hid ((Box.at (b := w.heap.size + 1 + 1) (by simp)).past _ |>.keep hx)
  have B5 := Lib.hid ((Box.at (b := w.heap.size + 1 + 1 + 1) (by simp)).keep hx)
  clear hx
  generalize hg3 : w.heap.size + 1 = g3 at *
  generalize hg4 : g3 + 1 = g4 at *
  generalize hg5 : g4 + 1 = g5 at *
  generalize hg2 : w.heap.size = g2 at *
  have l4 : w.heap.size ≤ g4 := by omega
  have l5 : w.heap.size ≤ g5 := by omega
  have l2 : w.heap.size ≤ g2 := by omega
  have l3 : w.heap.size ≤ g3 := by omega
  have HG := Lib.hid (show w.heap.size = g2 ∧ g2 + 1 = g3 ∧ g3 + 1 = g4 ∧ g4 + 1 = g5 from ⟨hg2, hg3, hg4, hg5⟩)
  have n45 : g4 ≠ g5 := by omega
  have n24 : g2 ≠ g4 := by omega
  have n25 : g2 ≠ g5 := by omega
  have n34 : g3 ≠ g4 := by omega
  have n35 : g3 ≠ g5 := by omega
  have n23 : g2 ≠ g3 := by omega
  clear hg2 hg3 hg4 hg5
  have hSw : ∀ k, S k → k < w.heap.size := fun k hk => by have h1 := HS.out k hk; have h2 := HG.out.1; omega
  clear HS
  have HS := Lib.hid hSw; clear hSw
  obtain ⟨c20, c21, c22, f20, f21, f22⟩ := B2.out.three
  obtain ⟨c30, c31, c32, c33, f30, f31, f32, f33⟩ := B3.out.four
  obtain ⟨c40, c41, c42, f40, f41, f42⟩ := B4.out.three
  obtain ⟨c50, c51, c52, c53, f50, f51, f52, f53⟩ := B5.out.four
  cases hok : okJ j
  · rw [chkJ_no hok]
    go_wp2_with fail
    generalize hWa : World.setCell (World.setCell (World.setCell w1 ⟨g4, 0, none⟩ _) ⟨g4, 1, none⟩ _) ⟨g4, 2, none⟩ _ = wa
    generalize hWb : World.setCell (World.setCell (World.setCell (World.setCell wa _ _) _ _) _ _) _ _ = wb
    obtain ⟨hba, hoa⟩ := box_set3 B4.out hWa
    obtain ⟨hbb, hob⟩ := box_set4 (hoa.box B5.out n45.symm) hWb
    have hEb := hob.ext (hoa.ext hE l4) l5
    obtain ⟨z0, z1, z2, -, -, -⟩ := (hob.box hba n45).three
    obtain ⟨y0, y1, y2, y3, -, -, -, -⟩ := hbb.four
    refine bodyPost_ret (v := .tuple #[.agg #[.slice none 0 0, .int .i64 0, .int .i64 0], .agg #[.slice none 0 0, .slice none 0 0, .int .i64 0, .bool false], .int .i64 1]) (by simp [results, Try.results47, go_sem, z0, z1, z2, y0, y1, y2, y3]) rfl (SyncErr.mk (j := zeroJ) (d := zeroD) (by unfold syncJ; rw [if_pos hok]) (zeroJ_journal _ _) (zeroD_disk _ _) hEb)
  rw [chkJ_yes hok]
  go_wp2_with fail
  refine (check_ok _ _ d (HD.out.keep hE)).mono ?_
  rintro e w2 ⟨rfl, hx2⟩
  have hE2 := hE.trans hx2
  clear c20 c21 c22 f20 f21 f22 c30 c31 c32 c33 f30 f31 f32 f33 c40 c41 c42 f40 f41 f42 c50 c51 c52 c53 f50 f51 f52 f53
  have C2 := Lib.hid (B2.out.keep hx2); clear B2
  have C3 := Lib.hid (B3.out.keep hx2); clear B3
  have C4 := Lib.hid (B4.out.keep hx2); clear B4
  have C5 := Lib.hid (B5.out.keep hx2); clear B5
  obtain ⟨c20, c21, c22, f20, f21, f22⟩ := C2.out.three
  obtain ⟨c30, c31, c32, c33, f30, f31, f32, f33⟩ := C3.out.four
  obtain ⟨c40, c41, c42, f40, f41, f42⟩ := C4.out.three
  obtain ⟨c50, c51, c52, c53, f50, f51, f52, f53⟩ := C5.out.four
  clear hE hx2
  cases hod : okD d
  · rw [chk_no hod]
    go_wp2_with fail
    generalize hWa : World.setCell (World.setCell (World.setCell w2 ⟨g4, 0, none⟩ _) ⟨g4, 1, none⟩ _) ⟨g4, 2, none⟩ _ = wa
    generalize hWb : World.setCell (World.setCell (World.setCell (World.setCell wa _ _) _ _) _ _) _ _ = wb
    obtain ⟨hba, hoa⟩ := box_set3 C4.out hWa
    obtain ⟨hbb, hob⟩ := box_set4 (hoa.box C5.out n45.symm) hWb
    have hEb := hob.ext (hoa.ext hE2 l4) l5
    obtain ⟨z0, z1, z2, -, -, -⟩ := (hob.box hba n45).three
    obtain ⟨y0, y1, y2, y3, -, -, -, -⟩ := hbb.four
    refine bodyPost_ret (v := .tuple #[.agg #[.slice none 0 0, .int .i64 0, .int .i64 0], .agg #[.slice none 0 0, .slice none 0 0, .int .i64 0, .bool false], .int .i64 410]) (by simp [results, Try.results47, go_sem, z0, z1, z2, y0, y1, y2, y3]) rfl (SyncErr.mk (j := zeroJ) (d := zeroD) (by unfold syncJ; rw [if_neg (by rw [hok]; decide), if_pos hod]) (zeroJ_journal _ _) (zeroD_disk _ _) hEb)
  rw [chk_yes hod]
  have hop1 : d.stopped = true → openJ d = (zeroJ, 410) := fun h => by unfold openJ; rw [if_neg (by rw [hod]; decide), if_pos h]
  have hop2 : d.stopped = false → d.pending ≠ [] → openJ d = (zeroJ, 1) := fun h h2 => by unfold openJ; rw [if_neg (by rw [hod]; decide), if_neg (by rw [h]; decide), if_pos h2]
  cases hst : d.stopped
  case true =>
    have HO := Lib.hid (hop1 hst); clear hop1 hop2
    rw [hst] at c33
    have HST := Lib.hid hst; clear hst
    have how : syncJ j d = (zeroJ, zeroD, 410) := by unfold syncJ; rw [if_neg (by rw [hok]; decide), if_neg (by rw [hod]; decide), if_pos HST.out]
    have HOW := Lib.hid how; clear how
    by_cases hmn : j.many = d.sectors.length
    · have hmb : (j.many != (d.sectors.length : Int)) = false := by simp [hmn]
      have HMN := Lib.hid hmn; clear hmn
      go_wp2_with fail
      have k0 := open_ok (S := Bx S w.heap.size (g5 + 1)) w2 _ d (Disk.keep (HD.out.more Bx.more) hE2) (Bx.lt HS.out hE2.size (by have := C5.out.lt; omega))
      rw [HO.out, HST.out] at k0
      refine k0.mono ?_
      clear k0
      rintro e w3 ⟨v3, rfl, hv3, hx3⟩
      have hE3 := hE2.trans hx3
      obtain ⟨a9, c9, rfl, hc9, hm9, hv9⟩ := hv3.open
      clear hv3 hv9 c20 c21 c22 f20 f21 f22 c30 c31 c32 c33 f30 f31 f32 f33 c40 c41 c42 f40 f41 f42 c50 c51 c52 c53 f50 f51 f52 f53
      have D4 := Lib.hid ((C4.out.keep hx3).past (.cells #[.slice a9 zeroJ.records.length c9, .int .i64 zeroJ.many, .int .i64 zeroJ.synced] 55))
      have D5 := Lib.hid ((C5.out.keep hx3).past (.cells #[.slice a9 zeroJ.records.length c9, .int .i64 zeroJ.many, .int .i64 zeroJ.synced] 55))
      have hE4 := hE3.alloc (.cells #[.slice a9 zeroJ.records.length c9, .int .i64 zeroJ.many, .int .i64 zeroJ.synced] 55)
      obtain ⟨c40, c41, c42, f40, f41, f42⟩ := (C4.out.keep hx3).three
      obtain ⟨c50, c51, c52, c53, f50, f51, f52, f53⟩ := (C5.out.keep hx3).four
      have m4 := (C4.out.keep hx3).lt
      have m5 := (C5.out.keep hx3).lt
      go_upto_region 10 with fail
      generalize w3.alloc (.cells #[.slice a9 zeroJ.records.length c9, .int .i64 zeroJ.many, .int .i64 zeroJ.synced] 55) = w4 at *
      clear c40 c41 c42 f40 f41 f42 c50 c51 c52 c53 f50 f51 f52 f53
      obtain ⟨c40, c41, c42, f40, f41, f42⟩ := D4.out.three
      obtain ⟨c50, c51, c52, c53, f50, f51, f52, f53⟩ := D5.out.four
      go_wp2_with fail
      generalize hWa : World.setCell (World.setCell (World.setCell w4 ⟨g4, 0, none⟩ _) ⟨g4, 1, none⟩ _) ⟨g4, 2, none⟩ _ = wa
      generalize hWb : World.setCell (World.setCell (World.setCell (World.setCell wa _ _) _ _) _ _) _ _ = wb
      obtain ⟨hba, hoa⟩ := box_set3 D4.out hWa
      obtain ⟨hbb, hob⟩ := box_set4 (hoa.box D5.out n45.symm) hWb
      have hEb := hob.ext (hoa.ext hE4 l4) l5
      obtain ⟨z0, z1, z2, -, -, -⟩ := (hob.box hba n45).three
      obtain ⟨y0, y1, y2, y3, -, -, -, -⟩ := hbb.four
      refine bodyPost_ret (v := .tuple #[.agg #[.slice none 0 0, .int .i64 0, .int .i64 0], .agg #[.slice none 0 0, .slice none 0 0, .int .i64 0, .bool false], .int .i64 410]) (by simp [results, Try.results47, go_sem, z0, z1, z2, y0, y1, y2, y3]) rfl (SyncErr.mk (j := zeroJ) (d := zeroD) (HOW.out) (zeroJ_journal _ _) (zeroD_disk _ _) hEb)
    · have hmb : (j.many != (d.sectors.length : Int)) = true := by simp [hmn]
      have HMN := Lib.hid hmn; clear hmn
      go_wp2_with fail
      have k0 := open_ok (S := Bx S w.heap.size (g5 + 1)) w2 _ d (Disk.keep (HD.out.more Bx.more) hE2) (Bx.lt HS.out hE2.size (by have := C5.out.lt; omega))
      rw [HO.out, HST.out] at k0
      refine k0.mono ?_
      clear k0
      rintro e w3 ⟨v3, rfl, hv3, hx3⟩
      have hE3 := hE2.trans hx3
      obtain ⟨a9, c9, rfl, hc9, hm9, hv9⟩ := hv3.open
      clear hv3 hv9 c20 c21 c22 f20 f21 f22 c30 c31 c32 c33 f30 f31 f32 f33 c40 c41 c42 f40 f41 f42 c50 c51 c52 c53 f50 f51 f52 f53
      have D4 := Lib.hid ((C4.out.keep hx3).past (.cells #[.slice a9 zeroJ.records.length c9, .int .i64 zeroJ.many, .int .i64 zeroJ.synced] 55))
      have D5 := Lib.hid ((C5.out.keep hx3).past (.cells #[.slice a9 zeroJ.records.length c9, .int .i64 zeroJ.many, .int .i64 zeroJ.synced] 55))
      have hE4 := hE3.alloc (.cells #[.slice a9 zeroJ.records.length c9, .int .i64 zeroJ.many, .int .i64 zeroJ.synced] 55)
      obtain ⟨c40, c41, c42, f40, f41, f42⟩ := (C4.out.keep hx3).three
      obtain ⟨c50, c51, c52, c53, f50, f51, f52, f53⟩ := (C5.out.keep hx3).four
      have m4 := (C4.out.keep hx3).lt
      have m5 := (C5.out.keep hx3).lt
      go_upto_region 10 with fail
      generalize w3.alloc (.cells #[.slice a9 zeroJ.records.length c9, .int .i64 zeroJ.many, .int .i64 zeroJ.synced] 55) = w4 at *
      clear c40 c41 c42 f40 f41 f42 c50 c51 c52 c53 f50 f51 f52 f53
      obtain ⟨c40, c41, c42, f40, f41, f42⟩ := D4.out.three
      obtain ⟨c50, c51, c52, c53, f50, f51, f52, f53⟩ := D5.out.four
      go_wp2_with fail
      generalize hWa : World.setCell (World.setCell (World.setCell w4 ⟨g4, 0, none⟩ _) ⟨g4, 1, none⟩ _) ⟨g4, 2, none⟩ _ = wa
      generalize hWb : World.setCell (World.setCell (World.setCell (World.setCell wa _ _) _ _) _ _) _ _ = wb
      obtain ⟨hba, hoa⟩ := box_set3 D4.out hWa
      obtain ⟨hbb, hob⟩ := box_set4 (hoa.box D5.out n45.symm) hWb
      have hEb := hob.ext (hoa.ext hE4 l4) l5
      obtain ⟨z0, z1, z2, -, -, -⟩ := (hob.box hba n45).three
      obtain ⟨y0, y1, y2, y3, -, -, -, -⟩ := hbb.four
      refine bodyPost_ret (v := .tuple #[.agg #[.slice none 0 0, .int .i64 0, .int .i64 0], .agg #[.slice none 0 0, .slice none 0 0, .int .i64 0, .bool false], .int .i64 410]) (by simp [results, Try.results47, go_sem, z0, z1, z2, y0, y1, y2, y3]) rfl (SyncErr.mk (j := zeroJ) (d := zeroD) (HOW.out) (zeroJ_journal _ _) (zeroD_disk _ _) hEb)
  rw [hst] at c33
  have HST := Lib.hid hst; clear hst hop1
  have hsy0 : syncJ j d = if j.many ≠ d.sectors.length ∨ d.pending ≠ [] then (zeroJ, zeroD, 1) else
      if recs d.sectors ≠ j.records.take j.synced.toNat ∨ 4294967295 < genMax d.sectors then (zeroJ, zeroD, 420) else
      if j.synced = j.records.length then (j, d, 0) else
      let r := syncD { d with pending := writesOf (genMax d.sectors) (usedN (j.records.take j.synced.toNat)) (j.records.drop j.synced.toNat) }
      if r.2 ≠ 0 then (zeroJ, r.1, r.2) else ({ j with synced := j.records.length }, r.1, 0) := by
    unfold syncJ; rw [if_neg (by rw [hok]; decide), if_neg (by rw [hod]; decide), if_neg (by rw [HST.out]; decide)]
  have HSY0 := Lib.hid hsy0; clear hsy0
  by_cases hmn : j.many = d.sectors.length
  case neg =>
    have hmb : (j.many != (d.sectors.length : Int)) = true := by simp [hmn]
    have HMN := Lib.hid hmn; clear hmn
    go_wp2_with fail
    generalize hWa : World.setCell (World.setCell (World.setCell w2 ⟨g4, 0, none⟩ _) ⟨g4, 1, none⟩ _) ⟨g4, 2, none⟩ _ = wa
    generalize hWb : World.setCell (World.setCell (World.setCell (World.setCell wa _ _) _ _) _ _) _ _ = wb
    obtain ⟨hba, hoa⟩ := box_set3 C4.out hWa
    obtain ⟨hbb, hob⟩ := box_set4 (hoa.box C5.out n45.symm) hWb
    have hEb := hob.ext (hoa.ext hE2 l4) l5
    obtain ⟨z0, z1, z2, -, -, -⟩ := (hob.box hba n45).three
    obtain ⟨y0, y1, y2, y3, -, -, -, -⟩ := hbb.four
    refine bodyPost_ret (v := .tuple #[.agg #[.slice none 0 0, .int .i64 0, .int .i64 0], .agg #[.slice none 0 0, .slice none 0 0, .int .i64 0, .bool false], .int .i64 1]) (by simp [results, Try.results47, go_sem, z0, z1, z2, y0, y1, y2, y3]) rfl (SyncErr.mk (j := zeroJ) (d := zeroD) (by rw [HSY0.out, if_pos (.inl HMN.out)]) (zeroJ_journal _ _) (zeroD_disk _ _) hEb)
  have hmb : (j.many != (d.sectors.length : Int)) = false := by simp [hmn]
  have HMN := Lib.hid hmn; clear hmn
  by_cases hpe : d.pending = []
  case neg =>
    have HO := Lib.hid (hop2 HST.out hpe); clear hop2
    have HPE := Lib.hid hpe; clear hpe
    go_wp2_with fail
    have k0 := open_ok (S := Bx S w.heap.size (g5 + 1)) w2 _ d (Disk.keep (HD.out.more Bx.more) hE2) (Bx.lt HS.out hE2.size (by have := C5.out.lt; omega))
    rw [HO.out, HST.out] at k0
    refine k0.mono ?_
    clear k0
    rintro e w3 ⟨v3, rfl, hv3, hx3⟩
    have hE3 := hE2.trans hx3
    obtain ⟨a9, c9, rfl, hc9, hm9, hv9⟩ := hv3.open
    clear hv3 hv9 c20 c21 c22 f20 f21 f22 c30 c31 c32 c33 f30 f31 f32 f33 c40 c41 c42 f40 f41 f42 c50 c51 c52 c53 f50 f51 f52 f53
    have D4 := Lib.hid ((C4.out.keep hx3).past (.cells #[.slice a9 zeroJ.records.length c9, .int .i64 zeroJ.many, .int .i64 zeroJ.synced] 55))
    have D5 := Lib.hid ((C5.out.keep hx3).past (.cells #[.slice a9 zeroJ.records.length c9, .int .i64 zeroJ.many, .int .i64 zeroJ.synced] 55))
    have hE4 := hE3.alloc (.cells #[.slice a9 zeroJ.records.length c9, .int .i64 zeroJ.many, .int .i64 zeroJ.synced] 55)
    obtain ⟨c40, c41, c42, f40, f41, f42⟩ := (C4.out.keep hx3).three
    obtain ⟨c50, c51, c52, c53, f50, f51, f52, f53⟩ := (C5.out.keep hx3).four
    have m4 := (C4.out.keep hx3).lt
    have m5 := (C5.out.keep hx3).lt
    go_upto_region 10 with fail
    generalize w3.alloc (.cells #[.slice a9 zeroJ.records.length c9, .int .i64 zeroJ.many, .int .i64 zeroJ.synced] 55) = w4 at *
    clear c40 c41 c42 f40 f41 f42 c50 c51 c52 c53 f50 f51 f52 f53
    obtain ⟨c40, c41, c42, f40, f41, f42⟩ := D4.out.three
    obtain ⟨c50, c51, c52, c53, f50, f51, f52, f53⟩ := D5.out.four
    go_wp2_with fail
    generalize hWa : World.setCell (World.setCell (World.setCell w4 ⟨g4, 0, none⟩ _) ⟨g4, 1, none⟩ _) ⟨g4, 2, none⟩ _ = wa
    generalize hWb : World.setCell (World.setCell (World.setCell (World.setCell wa _ _) _ _) _ _) _ _ = wb
    obtain ⟨hba, hoa⟩ := box_set3 D4.out hWa
    obtain ⟨hbb, hob⟩ := box_set4 (hoa.box D5.out n45.symm) hWb
    have hEb := hob.ext (hoa.ext hE4 l4) l5
    obtain ⟨z0, z1, z2, -, -, -⟩ := (hob.box hba n45).three
    obtain ⟨y0, y1, y2, y3, -, -, -, -⟩ := hbb.four
    refine bodyPost_ret (v := .tuple #[.agg #[.slice none 0 0, .int .i64 0, .int .i64 0], .agg #[.slice none 0 0, .slice none 0 0, .int .i64 0, .bool false], .int .i64 1]) (by simp [results, Try.results47, go_sem, z0, z1, z2, y0, y1, y2, y3]) rfl (SyncErr.mk (j := zeroJ) (d := zeroD) (by rw [HSY0.out, if_pos (.inr HPE.out)]) (zeroJ_journal _ _) (zeroD_disk _ _) hEb)
  have hop3 : openJ d = ({ records := recs d.sectors, many := d.sectors.length, synced := (recs d.sectors).length }, 0) := by
    unfold openJ; rw [if_neg (by rw [hod]; decide), if_neg (by rw [HST.out]; decide), if_neg (by rw [hpe]; simp)]
  have hsy1 := HSY0.out
  rw [if_neg (by rw [HMN.out, hpe]; simp)] at hsy1
  have HSY1 := Lib.hid hsy1; clear hsy1 HSY0 hop2
  have HPE := Lib.hid hpe; clear hpe
  go_wp2_with fail
  have k0 := open_ok (S := Bx S w.heap.size (g5 + 1)) w2 _ d (Disk.keep (HD.out.more Bx.more) hE2) (Bx.lt HS.out hE2.size (by have := C5.out.lt; omega))
  rw [hop3, HST.out] at k0
  refine k0.mono ?_
  clear k0
  rintro e w3 ⟨v3, rfl, hv3, hx3⟩
  have hE3 := hE2.trans hx3
  obtain ⟨a9, c9, rfl, hc9, hm9, hv9⟩ := hv3.open
  clear hv3 hop3 c20 c21 c22 f20 f21 f22 c30 c31 c32 c33 f30 f31 f32 f33 c40 c41 c42 f40 f41 f42 c50 c51 c52 c53 f50 f51 f52 f53
  have hR9 : Bss (Bx S w.heap.size (g5 + 1)) w3 (.slice a9 (recs d.sectors).length c9) (recs d.sectors) := hv9
  have HR9 := Lib.hid hR9; clear hR9 hv9
  generalize hrs : recs d.sectors = rs at *
  have HRS := Lib.hid hrs; clear hrs
  simp only at hc9
  have OBJ : ∀ o, o = Obj.cells #[.slice a9 rs.length c9, .int .i64 (d.sectors.length : Int), .int .i64 (rs.length : Int)] 55 → o = o := fun _ _ => rfl
  clear OBJ
  have D2 := Lib.hid ((C2.out.keep hx3).past (.cells #[.slice a9 rs.length c9, .int .i64 (d.sectors.length : Int), .int .i64 (rs.length : Int)] 55)); clear C2
  have D3 := Lib.hid ((C3.out.keep hx3).past (.cells #[.slice a9 rs.length c9, .int .i64 (d.sectors.length : Int), .int .i64 (rs.length : Int)] 55)); clear C3
  have D4 := Lib.hid ((C4.out.keep hx3).past (.cells #[.slice a9 rs.length c9, .int .i64 (d.sectors.length : Int), .int .i64 (rs.length : Int)] 55)); clear C4
  have m5 := (C5.out.keep hx3).lt
  have D5 := Lib.hid ((C5.out.keep hx3).past (.cells #[.slice a9 rs.length c9, .int .i64 (d.sectors.length : Int), .int .i64 (rs.length : Int)] 55)); clear C5
  have D9 := Lib.hid (Box.new w3 [.slice a9 rs.length c9, .int .i64 (d.sectors.length : Int), .int .i64 (rs.length : Int)] 55)
  have hE4 := hE3.alloc (.cells #[.slice a9 rs.length c9, .int .i64 (d.sectors.length : Int), .int .i64 (rs.length : Int)] 55)
  have HR4 := Lib.hid (Bss.keep HR9.out ((Ext.refl w3).alloc (.cells #[.slice a9 rs.length c9, .int .i64 (d.sectors.length : Int), .int .i64 (rs.length : Int)] 55))); clear HR9
  go_upto_region 10 with fail
  generalize w3.alloc (.cells #[.slice a9 rs.length c9, .int .i64 (d.sectors.length : Int), .int .i64 (rs.length : Int)] 55) = w4 at *
  generalize hg9 : w3.heap.size = g9 at *
  have l9 : g5 < g9 := m5
  have l9w : w.heap.size ≤ g9 := by omega
  clear hE2 hE3 hx3 hg9 m5 w1 w2
  obtain ⟨c20, c21, c22, f20, f21, f22⟩ := D2.out.three
  obtain ⟨c30, c31, c32, c33, f30, f31, f32, f33⟩ := D3.out.four
  obtain ⟨c40, c41, c42, f40, f41, f42⟩ := D4.out.three
  obtain ⟨c50, c51, c52, c53, f50, f51, f52, f53⟩ := D5.out.four
  obtain ⟨c90, c91, c92, -, -, -⟩ := D9.out.three
  go_upto_region 13 with fail
  obtain ⟨hk1, hk2, hk3⟩ := (okD_iff d).1 hod
  have h128 : ∀ s ∈ d.sectors, s.length = 128 := fun s hs => by
    rw [List.any_eq_false] at hk3
    have := hk3 s hs
    unfold badS at this
    simp at this; omega
  have H128 := Lib.hid h128; clear h128 hk2 hk3
  have hk4096 : d.sectors.length ≤ 4096 := by omega
  have hk1 : 1 ≤ d.sectors.length := by omega
  go_wp2_with fail
  go_loopw [10, 59] (fun gv iv wr => ∃ k : Nat, k ≤ d.sectors.length ∧ iv = .int .i64 (k : Int) ∧ gv = .int .u64 (genMax (d.sectors.take k) : Int) ∧ Ext w4 wr) (fun _ iv _ => d.sectors.length - (intOf iv).toNat)
  case atStart => exact ⟨0, Nat.zero_le _, rfl, rfl, Ext.refl _⟩
  case round =>
    obtain ⟨k, hk, rfl, rfl, hxr⟩ := hrel
    by_cases hlt : k < d.sectors.length
    · obtain ⟨bl, ol, vd, rfl, hb1, s1, hv⟩ := (Bss.keep HD1.out (hE4.trans hxr)).elem hlt
      have hsl := H128.out _ (List.getElem_mem hlt)
      have hgs := genMax_snoc (d.sectors.take k) d.sectors[k]
      rw [← List.take_succ_eq_append_getElem hlt] at hgs
      generalize d.sectors[k] = sk at *
      have HGS := Lib.hid hgs; clear hgs
      have HSL := Lib.hid hsl; clear hsl
      obtain ⟨a0, cs, rfl, hcs, hms⟩ := hv.open
      obtain ⟨b0, o0, rfl, -, -⟩ := hv.elem (k := 0) (by have := HSL.out; omega)
      have HV := Lib.hid hv; clear hv
      have hki : (k : Int) < d.sectors.length := by omega
      have hk0 : (0 : Int) ≤ k := by omega
      generalize genMax (d.sectors.take k) = g0 at *
      generalize hgn : genMax (d.sectors.take (k + 1)) = gn at *
      have HGN := Lib.hid hgn; clear hgn
      clear c20 c21 c22 f20 f21 f22 c30 c31 c32 c33 f30 f31 f32 f33 c40 c41 c42 f40 f41 f42 c50 c51 c52 c53 f50 f51 f52 f53 c90 c91 c92
      go_upto_region 16 with fail
      refine reg47_16 _ _ _ _ _ _ _ _ _ _ _ _ _ _ _ _ _ _ _ _ _ _ _ _ _ _ _ _ _ _ _ _ _ _ _ _ _ _ _ _ _ _ _ _ _ _ _ _ _ _ _ _ _ _ _ _ _ _ _ _ _ _ _ _ _ _ _ _ _ _ _ _ _ _ _ _ _ _ _ _ _ _ _ _ _ _ _ _ _ _ _ _ _ _ _ _ _ _ _ _ _ _ _ _ _ _ _ _ _ _ _ _ _ _ _ _ _ _ _ _ _ _ _ _ _ _ _ _ _ _ _ _ _ _ _ _ _ _ _ _ _ _ _ _ _ _ _ _ _ _ _ _ _ _ _ _ _ _ _ _ _ _ _ _ _ wr b0 o0 sk.length cs g0 (gen sk) (num ((sk.drop 124).take (sk.length - 124))) gn sk HV.out HSL.out HSL.out hcs hms rfl rfl HGS.out.symm ?_
      intro v0 v1 v2 v3 v4 v5 v6 v7 v8 v9 wx hxx
      dsimp only
      go_wp2_with fail
      go_roundw
      case rel => exact ⟨k + 1, by omega, by go_num, by rw [HGN.out], hxr.trans hxx⟩
      case measure => simp [intOf]; omega
    · obtain rfl : k = d.sectors.length := by omega
      rw [List.take_length]
      have hge : ¬ ((d.sectors.length : Int) < d.sectors.length) := by omega
      go_upto_region 18 with fail
      have hE5 := hE4.trans hxr
      clear c20 c21 c22 f20 f21 f22 c30 c31 c32 c33 f30 f31 f32 f33 c40 c41 c42 f40 f41 f42 c50 c51 c52 c53 f50 f51 f52 f53 c90 c91 c92
      have E2 := Lib.hid (D2.out.keep hxr); clear D2
      have E3 := Lib.hid (D3.out.keep hxr); clear D3
      have E4 := Lib.hid (D4.out.keep hxr); clear D4
      have E5 := Lib.hid (D5.out.keep hxr); clear D5
      have E9 := Lib.hid (D9.out.keep hxr); clear D9
      have HR5 := Lib.hid (Bss.keep HR4.out hxr); clear HR4 hxr
      have hgm := genMax_le d.sectors H128.out
      have hgp := genMax_pos d.sectors
      generalize hgg : genMax d.sectors = g at *
      have HGG := Lib.hid hgg; clear hgg
      obtain ⟨hj1, hj2, hj3, hj4, hj5⟩ : 1 ≤ j.many ∧ j.many ≤ 4096 ∧ 0 ≤ j.synced ∧ j.synced ≤ j.records.length ∧ usedW j.records ≤ j.many := by
        have := hok; unfold okJ at this; simpa [and_assoc] using this
      obtain ⟨sy, hsy⟩ := Int.eq_ofNat_of_zero_le hj3
      have hsyl : sy ≤ j.records.length := by omega
      have hst : j.synced.toNat = sy := by omega
      have HST2 := Lib.hid hst; clear hst
      clear hj5
      have HSYE := Lib.hid hsy
      have hjs : Bss S w (.slice aJ sy cJ) (j.records.take sy) := HJ1.out.pre sy cJ hsyl (by omega) hmJ
      have HJS := Lib.hid hjs; clear hjs
      have hsy1 := HSY1.out
      rw [HST2.out] at hsy1
      have HSY2 := Lib.hid hsy1; clear hsy1 HSY1
      have E2' := E2.out
      rw [hsy] at E2'
      have E2 := Lib.hid E2'; clear E2'
      have hj4' : (sy : Int) ≤ j.records.length := by omega
      clear hsy hj3 hj4

      obtain ⟨c20, c21, c22, f20, f21, f22⟩ := E2.out.three
      obtain ⟨c30, c31, c32, c33, f30, f31, f32, f33⟩ := E3.out.four
      obtain ⟨c40, c41, c42, f40, f41, f42⟩ := E4.out.three
      obtain ⟨c50, c51, c52, c53, f50, f51, f52, f53⟩ := E5.out.four
      obtain ⟨c90, c91, c92, -, -, -⟩ := E9.out.three
      by_cases q1 : rs = j.records.take sy
      case neg =>
        have HQ1 := Lib.hid q1
        refine reg47_18a (S := S) _ _ _ _ _ _ _ _ _ _ _ _ _ _ _ _ _ _ _ _ _ _ _ _ _ _ _ _ _ _ _ _ _ _ _ _ _ _ _ _ _ _ _ _ _ _ _ _ _ _ _ _ _ _ _ _ _ _ _ _ _ _ _ _ _ _ _ _ _ _ _ _ _ _ _ _ _ _ _ _ _ _ _ _ _ _ _ _ _ _ _ _ _ _ _ _ _ _ _ _ _ _ _ _ _ _ _ _ _ _ _ _ _ _ _ _ _ _ _ _ _ _ _ _ _ _ _ _ _ _ _ _ _ _ _ _ _ _ _ _ _ _ _ _ _ _ _ _ _ _ _ _ _ _ _ _ _ _ _ _ _ _ _ _ _ wr g2 g9 rs.length c9 j.records.length cJ sy a9 aJ rs (j.records.take sy) c90 c20 c22 (HR5.out.more etBs (S' := S) Bx.less) (Bss.keep HJS.out hE5) hsyl hcJ (decide_eq_false q1) ?_
        intro v0 v1 v2 v3 v4 v5 v6 v7 v8 v9 v10 v11 v12 wx hxx
        dsimp only
        clear q1 c20 c21 c22 f20 f21 f22 c30 c31 c32 c33 f30 f31 f32 f33 c40 c41 c42 f40 f41 f42 c50 c51 c52 c53 f50 f51 f52 f53 c90 c91 c92
        have F4 := Lib.hid (E4.out.keep hxx)
        have F5 := Lib.hid (E5.out.keep hxx)
        obtain ⟨c40, c41, c42, f40, f41, f42⟩ := F4.out.three
        obtain ⟨c50, c51, c52, c53, f50, f51, f52, f53⟩ := F5.out.four
        have hE6 := hE5.trans hxx
        go_wp2_with fail
        generalize hWa : World.setCell (World.setCell (World.setCell wx ⟨g4, 0, none⟩ _) ⟨g4, 1, none⟩ _) ⟨g4, 2, none⟩ _ = wa
        generalize hWb : World.setCell (World.setCell (World.setCell (World.setCell wa _ _) _ _) _ _) _ _ = wb
        obtain ⟨hba, hoa⟩ := box_set3 F4.out hWa
        obtain ⟨hbb, hob⟩ := box_set4 (hoa.box F5.out n45.symm) hWb
        have hEb := hob.ext (hoa.ext hE6 l4) l5
        obtain ⟨z0, z1, z2, -, -, -⟩ := (hob.box hba n45).three
        obtain ⟨y0, y1, y2, y3, -, -, -, -⟩ := hbb.four
        refine bodyPost_ret (v := .tuple #[.agg #[.slice none 0 0, .int .i64 0, .int .i64 0], .agg #[.slice none 0 0, .slice none 0 0, .int .i64 0, .bool false], .int .i64 420]) (by simp [results, Try.results47, go_sem, z0, z1, z2, y0, y1, y2, y3]) rfl (SyncErr.mk (j := zeroJ) (d := zeroD) (by rw [HSY2.out, if_pos (.inl HQ1.out)]) (zeroJ_journal _ _) (zeroD_disk _ _) hEb)
      have HQ1 := Lib.hid q1
      obtain ⟨bq, hbq⟩ : ∃ bq, ((g : Int) / 4294967296 != 0) = bq := ⟨_, rfl⟩
      refine reg47_18b (S := S) _ _ _ _ _ _ _ _ _ _ _ _ _ _ _ _ _ _ _ _ _ _ _ _ _ _ _ _ _ _ _ _ _ _ _ _ _ _ _ _ _ _ _ _ _ _ _ _ _ _ _ _ _ _ _ _ _ _ _ _ _ _ _ _ _ _ _ _ _ _ _ _ _ _ _ _ _ _ _ _ _ _ _ _ _ _ _ _ _ _ _ _ _ _ _ _ _ _ _ _ _ _ _ _ _ _ _ _ _ _ _ _ _ _ _ _ _ _ _ _ _ _ _ _ _ _ _ _ _ _ _ _ _ _ _ _ _ _ _ _ _ _ _ _ _ _ _ _ _ _ _ _ _ _ _ _ _ _ _ _ _ _ _ _ wr g2 g9 rs.length c9 j.records.length cJ sy g a9 aJ rs (j.records.take sy) bq c90 c20 c22 (HR5.out.more etBs (S' := S) Bx.less) (Bss.keep HJS.out hE5) hsyl hcJ (decide_eq_true q1) hbq ?_
      intro v0 v1 v2 v3 v4 v5 v6 v7 v8 v9 v10 v11 v12 wx hxx
      dsimp only
      clear q1 c20 c21 c22 f20 f21 f22 c30 c31 c32 c33 f30 f31 f32 f33 c40 c41 c42 f40 f41 f42 c50 c51 c52 c53 f50 f51 f52 f53 c90 c91 c92
      have F2 := Lib.hid (E2.out.keep hxx)
      have F3 := Lib.hid (E3.out.keep hxx)
      have F4 := Lib.hid (E4.out.keep hxx)
      have F5 := Lib.hid (E5.out.keep hxx)
      have hE6 := hE5.trans hxx
      clear E9 HR5 hE5 hxx
      cases bq
      case true =>
        have HBQ := Lib.hid hbq; clear hbq
        obtain ⟨c40, c41, c42, f40, f41, f42⟩ := F4.out.three
        obtain ⟨c50, c51, c52, c53, f50, f51, f52, f53⟩ := F5.out.four
        go_wp2_with fail
        generalize hWa : World.setCell (World.setCell (World.setCell wx ⟨g4, 0, none⟩ _) ⟨g4, 1, none⟩ _) ⟨g4, 2, none⟩ _ = wa
        generalize hWb : World.setCell (World.setCell (World.setCell (World.setCell wa _ _) _ _) _ _) _ _ = wb
        obtain ⟨hba, hoa⟩ := box_set3 F4.out hWa
        obtain ⟨hbb, hob⟩ := box_set4 (hoa.box F5.out n45.symm) hWb
        have hEb := hob.ext (hoa.ext hE6 l4) l5
        obtain ⟨z0, z1, z2, -, -, -⟩ := (hob.box hba n45).three
        obtain ⟨y0, y1, y2, y3, -, -, -, -⟩ := hbb.four
        refine bodyPost_ret (v := .tuple #[.agg #[.slice none 0 0, .int .i64 0, .int .i64 0], .agg #[.slice none 0 0, .slice none 0 0, .int .i64 0, .bool false], .int .i64 420]) (by simp [results, Try.results47, go_sem, z0, z1, z2, y0, y1, y2, y3]) rfl (SyncErr.mk (j := zeroJ) (d := zeroD) (by rw [HSY2.out, if_pos (.inr (by have := HBQ.out; simp at this; omega))]) (zeroJ_journal _ _) (zeroD_disk _ _) hEb)
      have hg32 : g < 4294967296 := by simp at hbq; omega
      have hsy3 := HSY2.out
      rw [if_neg (by rintro (h | h); exact h HQ1.out; omega)] at hsy3
      have HSY3 := Lib.hid hsy3; clear hsy3 HSY2 hbq
      obtain ⟨c20, c21, c22, f20, f21, f22⟩ := F2.out.three
      by_cases q2 : sy = j.records.length
      case pos =>
        have hq2 : ((sy : Int) == j.records.length) = true := by simp [q2]
        have HQ2 := Lib.hid q2; clear q2
        go_upto_region 21 with fail
        refine reg47_21 _ _ _ _ _ _ _ _ _ _ _ _ _ _ _ _ _ _ _ _ _ _ _ _ _ _ _ _ _ _ _ _ _ _ _ _ _ _ _ _ _ _ _ _ _ _ _ _ _ _ _ _ _ _ _ _ _ _ _ _ _ _ _ _ _ _ _ _ _ _ _ _ _ _ _ _ _ _ _ _ _ _ _ _ _ _ _ _ _ _ _ _ _ _ _ _ _ _ _ _ _ _ _ _ _ _ _ _ _ _ _ _ _ _ _ _ _ _ _ _ _ _ _ _ _ _ _ _ _ _ _ _ _ _ _ _ _ _ _ _ _ _ _ _ _ _ _ _ _ _ _ _ _ _ _ _ _ _ _ _ _ _ _ wx g2 g3 g4 g5 j.records.length cJ d.sectors.length c d.pending.length c2 aJ a a2 j.many (sy : Int) d.left false _ _ _ _ _ _ _ F2.out (by have := F3.out; rwa [HST.out] at this) F4.out F5.out n34 n45 ?_
        intro v0 v1 wz wy wa hxy hoa hob hb4 hb5
        dsimp only
        clear c20 c21 c22 f20 f21 f22
        have hE7 := hob.ext (hoa.ext (hE6.trans hxy) l4) l5
        obtain ⟨z0, z1, z2, -, -, -⟩ := hb4.three
        obtain ⟨y0, y1, y2, y3, -, -, -, -⟩ := hb5.four
        go_wp2_with fail
        refine bodyPost_ret (v := .tuple #[.agg #[.slice aJ j.records.length cJ, .int .i64 j.many, .int .i64 (sy : Int)], .agg #[.slice a d.sectors.length c, .slice a2 d.pending.length c2, .int .i64 d.left, .bool false], .int .i64 0]) (by simp [results, Try.results47, go_sem, z0, z1, z2, y0, y1, y2, y3]) rfl (SyncErr.mk (j := j) (d := d) (by rw [HSY3.out, if_pos (by rw [HSYE.out, HQ2.out])]) (by have := HJ.out.keep hE7; rwa [HSYE.out] at this) (by have := HD.out.keep hE7; rwa [HST.out] at this) hE7)
      have hq2 : ((sy : Int) == j.records.length) = false := by simp; omega
      have hsyt : sy < j.records.length := by omega
      have HQ2 := Lib.hid q2; clear q2
      obtain ⟨bJ, oJ, vJ, rfl, hbJ, -, -⟩ := HJ1.out.elem (k := 0) (by omega)
      have hcs := HJ1.out.cut sy j.records.length cJ (by omega) (Nat.le_refl _) hcJ (Nat.le_refl _)
      rw [if_neg (by omega), List.take_of_length_le (by simp)] at hcs
      simp only [Option.map_some, Addr.add_lit, Nat.mul_one] at hcs
      have HRR := Lib.hid (hcs.more etBs (S' := Bx S w.heap.size (g5 + 1)) Bx.more); clear hcs
      have hpre : usedN (j.records.take sy) ≤ d.sectors.length := by rw [← HQ1.out, ← HRS.out]; exact usedN_recs H128.out
      have hUt : usedW (j.records.take sy) = (usedN (j.records.take sy) : Int) := usedW_eq _ (by omega)
      have HUT := Lib.hid hUt; clear hUt
      have HLT := Lib.hid (show ReachB (j.records.take sy) from fun b hb => HL.out b (List.mem_of_mem_take hb))
      have HLD := Lib.hid (show ReachB (j.records.drop sy) from fun b hb => HL.out b (List.mem_of_mem_drop hb))
      have hlR : (j.records.drop sy).length = j.records.length - sy := List.length_drop ..
      have HLR := Lib.hid hlR; clear hlR
      have i1 : (sy : Int) ≤ cJ := by omega
      have i2 : (sy : Int) < j.records.length := by omega
      have i3 : ¬ cJ = sy := by omega
      have i4 : (j.records.length : Int) ≤ cJ := by omega
      go_wp2_with fail
      refine (used_ok wx _ (j.records.take sy) (Bss.keep HJS.out hE6) HLT.out).mono ?_
      rintro e wx' ⟨rfl, rfl⟩
      rw [HUT.out]
      have hI0 : SInv (Bx S w.heap.size (g5 + 1)) w g2 g3 g4 g5 [.slice (some ⟨bJ, oJ, none⟩) j.records.length cJ, .int .i64 j.many, .int .i64 (sy : Int)] d [] wx := by
        refine ⟨hE6, F2.out, F4.out, F5.out, ?_, a, c, a2, c2, ?_, ?_⟩
        · have := hod; rwa [← show ({ d with pending := [] } : Dk) = d by rw [← HPE.out]] at this
        · have := F3.out; rw [HPE.out] at this; exact this
        · have := Disk.keep (HD.out.more (S' := Bx S w.heap.size (g5 + 1)) Bx.more) hE6
          have e : ({ d with pending := [] } : Dk) = d := by rw [← HPE.out]
          rw [e]; rw [HPE.out] at this; exact this
      have HI0 := Lib.hid hI0; clear hI0
      generalize hat0 : usedN (j.records.take sy) = at0 at *
      generalize hR : j.records.drop sy = R at *
      have HAT0 := Lib.hid hat0; clear hat0
      have HRE := Lib.hid hR; clear hR
      have hRl : R.length = j.records.length - sy := HLR.out
      have HPRE := Lib.hid hpre; clear hpre
      clear F2 F3 F4 F5
      go_wp2_with fail
      clear c20 c21 c22 f20 f21 f22
      go_loopw [6, 13, 110] (fun ev av iv wr => ∃ (i at_ : Nat) (p : List Wr), i ≤ R.length ∧ ev = .int .i64 0 ∧ av = .int .i64 (at_ : Int) ∧ iv = .int .i64 (i : Int) ∧ at_ = at0 + p.length ∧ p ++ writesOf g at_ (R.drop i) = writesOf g at0 R ∧ at_ ≤ d.sectors.length ∧
          SInv (Bx S w.heap.size (g5 + 1)) w g2 g3 g4 g5 [.slice (some ⟨bJ, oJ, none⟩) j.records.length cJ, .int .i64 j.many, .int .i64 (sy : Int)] d p wr) (fun _ _ iv _ => R.length - (intOf iv).toNat)
      case atStart => exact ⟨0, at0, [], Nat.zero_le _, rfl, rfl, rfl, rfl, by simp, HPRE.out, HI0.out⟩
      case round =>
        obtain ⟨i, at_, p, hi, rfl, rfl, rfl, hat, hpw, hle, hI⟩ := hrel
        have HAT := Lib.hid hat; clear hat
        by_cases hlt : i < R.length
        case neg =>
          obtain rfl : i = R.length := by omega
          rw [List.drop_length, writesOf, List.append_nil] at hpw
          have HPW := Lib.hid hpw; clear hpw
          obtain ⟨hx1, hb2, hb4, hb5, hod1, a3, c3, a4, c4, hb3, hd3⟩ := hI
          have HB2 := Lib.hid hb2
          have HB3 := Lib.hid hb3
          have HB4 := Lib.hid hb4; clear hb4
          have hlt5 := hb5.lt
          have HB5 := Lib.hid hb5; clear hb5
          have k0 := sync_ok (S := Bx S w.heap.size (g5 + 1)) wr _ { d with pending := p } hd3 (Bx.lt HS.out hx1.size hlt5)
          obtain ⟨X, hX⟩ : ∃ X, syncD { d with pending := p } = X := ⟨_, rfl⟩
          rw [hX] at k0
          have HX := Lib.hid hX; clear hX
          obtain ⟨y, ye⟩ := X
          have K0 := Lib.hid k0; clear k0 hd3
          obtain ⟨c20, c21, c22, f20, f21, f22⟩ := hb2.three
          obtain ⟨c30, c31, c32, c33, f30, f31, f32, f33⟩ := hb3.four
          clear hb2 hb3
          have hge : ¬ ((R.length : Int) < R.length) := by omega
          go_wp2_with fail
          refine K0.out.mono ?_
          rintro e w5 ⟨v5, rfl, hd5, hx5⟩
          obtain ⟨a5, c5, a6, c6, rfl, -, -, -, -, -, -⟩ := hd5.open
          clear c30 c31 c32 c33 f30 f31 f32 f33 c20 c21 c22 f20 f21 f22
          obtain ⟨c30, c31, c32, c33, f30, f31, f32, f33⟩ := (HB3.out.keep hx5).four
          go_upto_region 40 with fail
          generalize hWg : World.setCell (World.setCell (World.setCell (World.setCell w5 _ _) _ _) _ _) _ _ = w6
          obtain ⟨hb6, ho6⟩ := box_set4 (HB3.out.keep hx5) hWg
          clear c30 c31 c32 c33 f30 f31 f32 f33 hWg
          have hin3 : Bx S w.heap.size (g5 + 1) g3 := .inr ⟨l3, by have := HG.out; omega⟩
          have hin2 : Bx S w.heap.size (g5 + 1) g2 := .inr ⟨l2, by have := HG.out; omega⟩
          have hin4 : Bx S w.heap.size (g5 + 1) g4 := .inr ⟨l4, by have := HG.out; omega⟩
          have hin5 : Bx S w.heap.size (g5 + 1) g5 := .inr ⟨l5, by have := HG.out; omega⟩
          have hE6 : Ext w w6 := ho6.ext (hx1.trans hx5) l3
          have HD6 := Lib.hid (Disk.keepM hd5 (ho6.mem hin3)); clear hd5
          have HB6 := Lib.hid hb6; clear hb6
          have hb2 := ho6.box (HB2.out.keep hx5) n23
          have hb4 := ho6.box (HB4.out.keep hx5) n34.symm
          have hb5 := ho6.box (HB5.out.keep hx5) n35.symm
          have hne : ¬ j.synced = (j.records.length : Int) := by have := HSYE.out; have := HQ2.out; omega
          have HSY4 := Lib.hid HSY3.out
          have hsy4 := HSY3.out
          rw [if_neg hne, ← HPW.out, HX.out] at hsy4
          clear HSY4 HSY3 HX K0 ho6
          by_cases hye : ye = 0
          · rw [if_neg (by simp [hye])] at hsy4
            have HSY5 := Lib.hid hsy4; clear hsy4
            have hye1 : (ye != 0) = false := by simp [hye]
            have HB4' := Lib.hid hb4; clear hb4
            have HB5' := Lib.hid hb5; clear hb5
            obtain ⟨c20, c21, c22, f20, f21, f22⟩ := hb2.three
            have HB2' := Lib.hid hb2; clear hb2
            go_upto_region 43 with fail
            generalize hWc : World.setCell w6 _ _ = w7
            obtain ⟨hb7, ho7⟩ := box_set1 HB2'.out hWc
            simp only [List.set_cons_succ, List.set_cons_zero] at hb7
            clear c20 c21 c22 f20 f21 f22
            refine reg47_43 _ _ _ _ _ _ _ _ _ _ _ _ _ _ _ _ _ _ _ _ _ _ _ _ _ _ _ _ _ _ _ _ _ _ _ _ _ _ _ _ _ _ _ _ _ _ _ _ _ _ _ _ _ _ _ _ _ _ _ _ _ _ _ _ _ _ _ _ _ _ _ _ _ _ _ _ _ _ _ _ _ _ _ _ _ _ _ _ _ _ _ _ _ _ _ _ _ _ _ _ _ _ _ _ _ _ _ _ _ _ _ _ _ _ _ _ _ _ _ _ _ _ _ _ _ _ _ _ _ _ _ _ _ _ _ _ _ _ _ _ _ _ _ _ _ _ _ _ _ _ _ _ _ _ _ _ _ _ _ _ _ _ _ w7 g2 g3 g4 g5 j.records.length cJ y.sectors.length c5 y.pending.length c6 (some ⟨bJ, oJ, none⟩) a5 a6 j.many (j.records.length : Int) y.left y.stopped _ _ _ _ _ _ _ hb7 (ho7.box HB6.out n23.symm) (ho7.box HB4'.out n24.symm) (ho7.box HB5'.out n25.symm) n34 n45 ?_
            intro v0 v1 wz wy wa hxy hoa hob hb4 hb5
            have hE7 := hob.ext (hoa.ext ((ho7.ext hE6 l2).trans hxy) l4) l5
            have hD7 := (((HD6.out.keepM (ho7.mem hin2)).keep hxy).keepM (hoa.mem hin4)).keepM (hob.mem hin5)
            obtain ⟨z0, z1, z2, -, -, -⟩ := hb4.three
            obtain ⟨y0, y1, y2, y3, -, -, -, -⟩ := hb5.four
            have HE7 := Lib.hid hE7; clear hE7
            have HD7 := Lib.hid hD7; clear hD7
            go_wp2_with fail
            refine bodyPost_ret (v := .tuple #[.agg #[.slice (some ⟨bJ, oJ, none⟩) j.records.length cJ, .int .i64 j.many, .int .i64 (j.records.length : Int)], .agg #[.slice a5 y.sectors.length c5, .slice a6 y.pending.length c6, .int .i64 y.left, .bool y.stopped], .int .i64 0]) (by simp [results, Try.results47, go_sem, z0, z1, z2, y0, y1, y2, y3]) rfl (SyncErr.mk (j := { j with synced := (j.records.length : Int) }) (d := y) HSY5.out ⟨_, rfl, HJ1.out.keep HE7.out⟩ (HD7.out.more (S' := S) Bx.less) HE7.out)
          · rw [if_pos (by simp [hye])] at hsy4
            have HSY5 := Lib.hid hsy4; clear hsy4
            have hye1 : (ye != 0) = true := by simp [hye]
            have HB4' := Lib.hid hb4; clear hb4
            have HB5' := Lib.hid hb5; clear hb5 hb2
            go_upto_region 41 with fail
            refine reg47_41 _ _ _ _ _ _ _ _ _ _ _ _ _ _ _ _ _ _ _ _ _ _ _ _ _ _ _ _ _ _ _ _ _ _ _ _ _ _ _ _ _ _ _ _ _ _ _ _ _ _ _ _ _ _ _ _ _ _ _ _ _ _ _ _ _ _ _ _ _ _ _ _ _ _ _ _ _ _ _ _ _ _ _ _ _ _ _ _ _ _ _ _ _ _ _ _ _ _ _ _ _ _ _ _ _ _ _ _ _ _ _ _ _ _ _ _ _ _ _ _ _ _ _ _ _ _ _ _ _ _ _ _ _ _ _ _ _ _ _ _ _ _ _ _ _ _ _ _ _ _ _ _ _ _ _ _ _ _ _ _ _ _ _ w6 g3 g4 g5 y.sectors.length c5 y.pending.length c6 a5 a6 y.left ye y.stopped _ _ _ _ _ _ _ HB6.out HB4'.out HB5'.out n34 n45 ?_
            intro v0 v1 v2 wz wy wa hxy hoa hob hb4 hb5
            have hE7 := hob.ext (hoa.ext (hE6.trans hxy) l4) l5
            have hD7 := ((HD6.out.keep hxy).keepM (hoa.mem hin4)).keepM (hob.mem hin5)
            obtain ⟨z0, z1, z2, -, -, -⟩ := hb4.three
            obtain ⟨y0, y1, y2, y3, -, -, -, -⟩ := hb5.four
            have HE7 := Lib.hid hE7; clear hE7
            have HD7 := Lib.hid hD7; clear hD7
            go_wp2_with fail
            refine bodyPost_ret (v := .tuple #[.agg #[.slice none 0 0, .int .i64 0, .int .i64 0], .agg #[.slice a5 y.sectors.length c5, .slice a6 y.pending.length c6, .int .i64 y.left, .bool y.stopped], .int .i64 ye]) (by simp [results, Try.results47, go_sem, z0, z1, z2, y0, y1, y2, y3]) rfl (SyncErr.mk (j := zeroJ) (d := y) HSY5.out (zeroJ_journal _ _) (HD7.out.more (S' := S) Bx.less) HE7.out)
        have hHR := Bss.keep HRR.out hI.1
        obtain ⟨b1, o1, vd, e1, hb1, r1, hv⟩ := hHR.elem hlt
        cases e1
        have hbl := HLD.out R[i] (List.getElem_mem hlt)
        have hdi : R.drop i = R[i] :: R.drop (i + 1) := List.drop_eq_getElem_cons hlt
        rw [hdi, writesOf] at hpw
        have HPW := Lib.hid hpw; clear hpw hdi hHR
        generalize R[i] = b at *
        obtain ⟨ab, cb, rfl, hcb, hmb⟩ := hv.open
        have HV := Lib.hid hv; clear hv
        have HBL := Lib.hid hbl; clear hbl
        have HI := Lib.hid hI; clear hI
        have hii : (i : Int) < R.length := by omega
        have hi0 : (0 : Int) ≤ i := by omega
        go_wp2_with fail
        refine (sectors_ok wr _ b HV.out HBL.out).mono ?_
        rintro e wr' ⟨rfl, rfl⟩
        go_wp2_with fail
        go_loopw [6, 13, 15, 16, 17] (fun ev av bv kv nv wq => PInv (Bx S w.heap.size (g5 + 1)) w g2 g3 g4 g5 [.slice (some ⟨bJ, oJ, none⟩) j.records.length cJ, .int .i64 j.many, .int .i64 (sy : Int)] d g at0 (fun k => writesOf g k (R.drop (i + 1))) (writesOf g at0 R) ev av bv kv nv wq ∧ PB d av nv) (fun _ _ _ _ nv _ => (intOf nv).toNat)
        case atStart => exact ⟨⟨secN b.length, at_, p, b, true, ab, cb, rfl, rfl, rfl, HAT.out, rfl, rfl, hcb, hmb, HV.out, HPW.out, HI.out⟩, secN b.length, at_, rfl, secN_le _ HBL.out, rfl, hle⟩
        case round =>
          clear HPW HI HV HAT hcb hmb
          obtain ⟨⟨n, at1, p1, b1, fi, a1, c1, rfl, rfl, rfl, hat, rfl, rfl, hcb, hmb, hv, hpw, hI⟩, hpb⟩ := hrel
          obtain ⟨hn47, hq1⟩ := PB.open hpb
          clear hpb
          have HAT := Lib.hid hat; clear hat
          have HPW := Lib.hid hpw; clear hpw
          have HI := Lib.hid hI; clear hI
          have HV := Lib.hid hv; clear hv
          cases n with
          | zero =>
            go_wp2_with fail
            go_roundw
            case rel => exact ⟨i + 1, at1, p1, by omega, rfl, rfl, by go_num, HAT.out, by have := HPW.out; simpa [recSects] using this, hq1, HI.out⟩
            case measure => simp [intOf]; omega
          | succ n =>
            obtain ⟨hx1, hb2, hb4, hb5, hod1, a3, c3, a4, c4, hb3, hd3⟩ := HI.out
            have hsz := hb5.lt
            have hpre := HV.out.pre (min b1.length 112) c1 (by omega) (by omega) (by unfold maxLen; omega)
            have htk : b1.take (min b1.length 112) = b1.take 112 := by
              rcases Nat.le_total b1.length 112 with h | h
              · rw [Nat.min_eq_left h, List.take_length, List.take_of_length_le h]
              · rw [Nat.min_eq_right h]
            rw [htk] at hpre
            have hpl : (b1.take 112).length ≤ 112 := by rw [List.length_take]; omega
            have HPRE2 := Lib.hid hpre; clear hpre htk
            have HB2 := Lib.hid hb2; clear hb2
            have HB3 := Lib.hid hb3; clear hb3
            have HB4 := Lib.hid hb4; clear hb4
            have HB5 := Lib.hid hb5; clear hb5
            have HD3 := Lib.hid hd3; clear hd3
            have HX1 := Lib.hid hx1; clear hx1
            have HOD1 := Lib.hid hod1; clear hod1
            have hor : bits .or .u8 ((kindOf fi false).toNat : Int) 2 = ((kindOf fi true).toNat : Int) := by cases fi <;> decide
            have hwn : IntKind.i64.wrap ((n : Int) + 1) = (n : Int) + 1 := wraps_i64 _ (by omega) (by omega)
            have hite : (if (112 : Int) < b1.length then 112 else (b1.length : Int)) = ((min b1.length 112 : Nat) : Int) := by split <;> omega
            have hkb1 : min b1.length 112 ≤ b1.length := Nat.min_le_left _ _
            have hpw2 : p1 ++ (⟨at1, sect g at1 (kindOf fi (n == 0)) (b1.take 112)⟩ :: recSects g (at1 + 1) false n (b1.drop 112) ++ writesOf g (at1 + (n + 1)) (R.drop (i + 1))) = writesOf g at0 R := HPW.out
            have HPW2 := Lib.hid hpw2; clear hpw2
            generalize hkb : min b1.length 112 = kb at *
            have HKB := Lib.hid hkb; clear hkb
            by_cases hat1 : at1 < d.sectors.length
            case neg =>
              have hbad : okD { d with pending := writesOf g at0 R } = false := okD_out (x := ⟨(at1 : Int), sect g at1 (kindOf fi (n == 0)) (b1.take 112)⟩) (by rw [← HPW2.out]; simp) (by show (d.sectors.length : Int) ≤ (at1 : Int); omega)
              have hne : ¬ j.synced = (j.records.length : Int) := by have := HSYE.out; have := HQ2.out; omega
              have hsyZ : syncJ j d = (zeroJ, zeroD, 410) := by rw [HSY3.out, if_neg hne, syncD_not hbad]; rfl
              have HSYZ := Lib.hid hsyZ; clear hsyZ hbad hne
              by_cases hn0 : n = 0
              case pos =>
                have hn1 : ((n : Int) + 1 == 1) = true := by simp; omega
                go_upto_region 33 with fail
                refine reg47_33E (S := Bx S w.heap.size (g5 + 1)) _ _ _ _ _ _ _ _ _ _ _ _ _ _ _ _ _ _ _ _ _ _ _ _ _ _ _ _ _ _ _ _ _ _ _ _ _ _ _ _ _ _ _ _ _ _ _ _ _ _ _ _ _ _ _ _ _ _ _ _ _ _ _ _ _ _ _ _ _ _ _ _ _ _ _ _ _ _ _ _ _ _ _ _ _ _ _ _ _ _ _ _ _ _ _ _ _ _ _ _ _ _ _ _ _ _ _ _ _ _ _ _ _ _ _ _ _ _ _ _ _ _ _ _ _ _ _ _ _ _ _ _ _ _ _ _ _ _ _ _ _ _ _ _ _ _ _ _ _ _ _ _ _ _ _ _ _ _ _ _ _ wr g3 g at1 b1.length c1 kb (kindOf fi true) a1 a3 a4 c3 c4 { d with pending := p1 } zeroD 410 (b1.take 112) HB3.out HD3.out HPRE2.out hpl hkb1 hcb hg32 (by omega) (writeD_out (by show (d.sectors.length : Int) ≤ (at1 : Int); omega)) (Bx.lt HS.out HX1.out.size hsz) (.inr ⟨l3, by have := HG.out; omega⟩) ?_
                intro v0 v1 v2 v3 v4 v5 v6 v7 v8 v9 v10 v11 v12 wy w9 a5 c5 a6 c6 hx9 ho9 hb9 hd9
                have hxw : Ext w wy := ho9.ext (HX1.out.trans hx9) l3
                have F4 := Lib.hid (ho9.box (HB4.out.keep hx9) n34.symm)
                have F5 := Lib.hid (ho9.box (HB5.out.keep hx9) n35.symm)
                clear hb9 hd9 ho9 hx9 HB2 HB3 HB4 HB5 HD3 HPW HPW2 HI HV
                obtain ⟨c40, c41, c42, f40, f41, f42⟩ := F4.out.three
                obtain ⟨c50, c51, c52, c53, f50, f51, f52, f53⟩ := F5.out.four
                go_wp2_with fail
                generalize hWa : World.setCell (World.setCell (World.setCell wy ⟨g4, 0, none⟩ _) ⟨g4, 1, none⟩ _) ⟨g4, 2, none⟩ _ = wa
                generalize hWb : World.setCell (World.setCell (World.setCell (World.setCell wa _ _) _ _) _ _) _ _ = wb
                obtain ⟨hba, hoa⟩ := box_set3 F4.out hWa
                obtain ⟨hbb, hob⟩ := box_set4 (hoa.box F5.out n45.symm) hWb
                have hEb := hob.ext (hoa.ext hxw l4) l5
                obtain ⟨z0, z1, z2, -, -, -⟩ := (hob.box hba n45).three
                obtain ⟨y0, y1, y2, y3, -, -, -, -⟩ := hbb.four
                refine bodyPost_ret (v := .tuple #[.agg #[.slice none 0 0, .int .i64 0, .int .i64 0], .agg #[.slice none 0 0, .slice none 0 0, .int .i64 0, .bool false], .int .i64 410]) (by simp [results, Try.results47, go_sem, z0, z1, z2, y0, y1, y2, y3]) rfl (SyncErr.mk (j := zeroJ) (d := zeroD) HSYZ.out (zeroJ_journal _ _) (zeroD_disk _ _) hEb)
              case neg =>
                have hn1 : ((n : Int) + 1 == 1) = false := by simp; omega
                go_upto_region 33 with fail
                refine reg47_33E (S := Bx S w.heap.size (g5 + 1)) _ _ _ _ _ _ _ _ _ _ _ _ _ _ _ _ _ _ _ _ _ _ _ _ _ _ _ _ _ _ _ _ _ _ _ _ _ _ _ _ _ _ _ _ _ _ _ _ _ _ _ _ _ _ _ _ _ _ _ _ _ _ _ _ _ _ _ _ _ _ _ _ _ _ _ _ _ _ _ _ _ _ _ _ _ _ _ _ _ _ _ _ _ _ _ _ _ _ _ _ _ _ _ _ _ _ _ _ _ _ _ _ _ _ _ _ _ _ _ _ _ _ _ _ _ _ _ _ _ _ _ _ _ _ _ _ _ _ _ _ _ _ _ _ _ _ _ _ _ _ _ _ _ _ _ _ _ _ _ _ _ wr g3 g at1 b1.length c1 kb (kindOf fi false) a1 a3 a4 c3 c4 { d with pending := p1 } zeroD 410 (b1.take 112) HB3.out HD3.out HPRE2.out hpl hkb1 hcb hg32 (by omega) (writeD_out (by show (d.sectors.length : Int) ≤ (at1 : Int); omega)) (Bx.lt HS.out HX1.out.size hsz) (.inr ⟨l3, by have := HG.out; omega⟩) ?_
                intro v0 v1 v2 v3 v4 v5 v6 v7 v8 v9 v10 v11 v12 wy w9 a5 c5 a6 c6 hx9 ho9 hb9 hd9
                have hxw : Ext w wy := ho9.ext (HX1.out.trans hx9) l3
                have F4 := Lib.hid (ho9.box (HB4.out.keep hx9) n34.symm)
                have F5 := Lib.hid (ho9.box (HB5.out.keep hx9) n35.symm)
                clear hb9 hd9 ho9 hx9 HB2 HB3 HB4 HB5 HD3 HPW HPW2 HI HV
                obtain ⟨c40, c41, c42, f40, f41, f42⟩ := F4.out.three
                obtain ⟨c50, c51, c52, c53, f50, f51, f52, f53⟩ := F5.out.four
                go_wp2_with fail
                generalize hWa : World.setCell (World.setCell (World.setCell wy ⟨g4, 0, none⟩ _) ⟨g4, 1, none⟩ _) ⟨g4, 2, none⟩ _ = wa
                generalize hWb : World.setCell (World.setCell (World.setCell (World.setCell wa _ _) _ _) _ _) _ _ = wb
                obtain ⟨hba, hoa⟩ := box_set3 F4.out hWa
                obtain ⟨hbb, hob⟩ := box_set4 (hoa.box F5.out n45.symm) hWb
                have hEb := hob.ext (hoa.ext hxw l4) l5
                obtain ⟨z0, z1, z2, -, -, -⟩ := (hob.box hba n45).three
                obtain ⟨y0, y1, y2, y3, -, -, -, -⟩ := hbb.four
                refine bodyPost_ret (v := .tuple #[.agg #[.slice none 0 0, .int .i64 0, .int .i64 0], .agg #[.slice none 0 0, .slice none 0 0, .int .i64 0, .bool false], .int .i64 410]) (by simp [results, Try.results47, go_sem, z0, z1, z2, y0, y1, y2, y3]) rfl (SyncErr.mk (j := zeroJ) (d := zeroD) HSYZ.out (zeroJ_journal _ _) (zeroD_disk _ _) hEb)
            have hp4 : p1.length < 4096 := by have h1 := HAT.out; omega
            by_cases hn0 : n = 0
            · have hn1 : ((n : Int) + 1 == 1) = true := by simp; omega
              go_upto_region 33 with fail
              refine reg47_33 (S := Bx S w.heap.size (g5 + 1)) _ _ _ _ _ _ _ _ _ _ _ _ _ _ _ _ _ _ _ _ _ _ _ _ _ _ _ _ _ _ _ _ _ _ _ _ _ _ _ _ _ _ _ _ _ _ _ _ _ _ _ _ _ _ _ _ _ _ _ _ _ _ _ _ _ _ _ _ _ _ _ _ _ _ _ _ _ _ _ _ _ _ _ _ _ _ _ _ _ _ _ _ _ _ _ _ _ _ _ _ _ _ _ _ _ _ _ _ _ _ _ _ _ _ _ _ _ _ _ _ _ _ _ _ _ _ _ _ _ _ _ _ _ _ _ _ _ _ _ _ _ _ _ _ _ _ _ _ _ _ _ _ _ _ _ _ _ _ _ _ _ wr g3 g at1 b1.length c1 kb (kindOf fi true) a1 a3 a4 c3 c4 { d with pending := p1 } { d with pending := p1 ++ [⟨at1, sect g at1 (kindOf fi true) (b1.take 112)⟩] } (b1.take 112) HB3.out HD3.out HPRE2.out hpl hkb1 hcb hg32 (by omega) (writeD_sect HOD1.out HST.out at1 g (kindOf fi true) (b1.take 112) hpl hat1 hp4) (Bx.lt HS.out HX1.out.size hsz) (.inr ⟨l3, by have := HG.out; omega⟩) ?_
              intro v0 v1 v2 v3 v4 v5 v6 v7 v8 v9 v10 v11 v12 wy w9 a5 c5 a6 c6 hx9 ho9 hb9 hd9
              have hxw : Ext w wy := ho9.ext (HX1.out.trans hx9) l3
              have HI9 : Hid (SInv (Bx S w.heap.size (g5 + 1)) w g2 g3 g4 g5 [.slice (some ⟨bJ, oJ, none⟩) j.records.length cJ, .int .i64 j.many, .int .i64 (sy : Int)] d (p1 ++ [⟨at1, sect g at1 (kindOf fi true) (b1.take 112)⟩]) wy) :=
                Lib.hid ⟨hxw, ho9.box (HB2.out.keep hx9) n23, ho9.box (HB4.out.keep hx9) n34.symm, ho9.box (HB5.out.keep hx9) n35.symm, okD_write HOD1.out at1 g (kindOf fi true) (b1.take 112) hpl hat1 hp4, a5, c5, a6, c6, hb9, hd9⟩
              have HV9 : Hid (Bs (Bx S w.heap.size (g5 + 1)) wy (.slice a1 b1.length c1) b1) := Lib.hid ((HV.out.keep hx9).keepM etByte (ho9.mem (.inr ⟨l3, by have := HG.out; omega⟩)))
              clear hb9 hd9 ho9 hx9
              go_wp2_with fail
              have hm0 : (0 : Int) = n := by omega
              exact ⟨⟨PInv.step HAT.out HKB.out hcb hmb HV9.out (by rw [hn0]; rfl) HPW2.out HI9.out hm0, PB.step hm0 (by omega) hat1⟩, PInv.less hm0⟩
            · have hn1 : ((n : Int) + 1 == 1) = false := by simp; omega
              go_upto_region 33 with fail
              refine reg47_33 (S := Bx S w.heap.size (g5 + 1)) _ _ _ _ _ _ _ _ _ _ _ _ _ _ _ _ _ _ _ _ _ _ _ _ _ _ _ _ _ _ _ _ _ _ _ _ _ _ _ _ _ _ _ _ _ _ _ _ _ _ _ _ _ _ _ _ _ _ _ _ _ _ _ _ _ _ _ _ _ _ _ _ _ _ _ _ _ _ _ _ _ _ _ _ _ _ _ _ _ _ _ _ _ _ _ _ _ _ _ _ _ _ _ _ _ _ _ _ _ _ _ _ _ _ _ _ _ _ _ _ _ _ _ _ _ _ _ _ _ _ _ _ _ _ _ _ _ _ _ _ _ _ _ _ _ _ _ _ _ _ _ _ _ _ _ _ _ _ _ _ _ wr g3 g at1 b1.length c1 kb (kindOf fi false) a1 a3 a4 c3 c4 { d with pending := p1 } { d with pending := p1 ++ [⟨at1, sect g at1 (kindOf fi false) (b1.take 112)⟩] } (b1.take 112) HB3.out HD3.out HPRE2.out hpl hkb1 hcb hg32 (by omega) (writeD_sect HOD1.out HST.out at1 g (kindOf fi false) (b1.take 112) hpl hat1 hp4) (Bx.lt HS.out HX1.out.size hsz) (.inr ⟨l3, by have := HG.out; omega⟩) ?_
              intro v0 v1 v2 v3 v4 v5 v6 v7 v8 v9 v10 v11 v12 wy w9 a5 c5 a6 c6 hx9 ho9 hb9 hd9
              have hxw : Ext w wy := ho9.ext (HX1.out.trans hx9) l3
              have HI9 : Hid (SInv (Bx S w.heap.size (g5 + 1)) w g2 g3 g4 g5 [.slice (some ⟨bJ, oJ, none⟩) j.records.length cJ, .int .i64 j.many, .int .i64 (sy : Int)] d (p1 ++ [⟨at1, sect g at1 (kindOf fi false) (b1.take 112)⟩]) wy) :=
                Lib.hid ⟨hxw, ho9.box (HB2.out.keep hx9) n23, ho9.box (HB4.out.keep hx9) n34.symm, ho9.box (HB5.out.keep hx9) n35.symm, okD_write HOD1.out at1 g (kindOf fi false) (b1.take 112) hpl hat1 hp4, a5, c5, a6, c6, hb9, hd9⟩
              have HV9 : Hid (Bs (Bx S w.heap.size (g5 + 1)) wy (.slice a1 b1.length c1) b1) := Lib.hid ((HV.out.keep hx9).keepM etByte (ho9.mem (.inr ⟨l3, by have := HG.out; omega⟩)))
              clear hb9 hd9 ho9 hx9
              go_wp2_with fail
              exact ⟨⟨PInv.step HAT.out HKB.out hcb hmb HV9.out (by rw [show (n == 0) = false by simp; exact hn0]) HPW2.out HI9.out rfl, PB.step rfl (by omega) hat1⟩, PInv.less rfl⟩
end Go.Proofs.Ytpciankfpagnhaa
