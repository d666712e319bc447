/- The law DiskNewSpec returns true on every input. -/
import Derived.Test.YtpciankfpagnhaaD23
import Derived.Test.YtpciankfpagnhaaD19
import Derived.Deep.RegionHeld3
namespace Go.Proofs.Ytpciankfpagnhaa
open Go.RowKit

theorem sameT {S S2 : Nat → Prop} (w : World) (v v2 : Value) (d : Dk) (h : Disk S w v d) (h' : Disk S2 w v2 d) :
    Calls Try.prog 21 #[v, v2] w fun e w' => e = .returned (.bool true) ∧ Ext w w' := by
  have := same_ok w v v2 d d h h'
  rwa [decide_eq_true rfl] at this

set_option maxRecDepth 100000 in
set_option maxHeartbeats 2000000 in
theorem diskNewSpec_ok (w : World) (n : Int) (v : Value) (d : Dk) (h : Disk No w v d) (hr : ReachD d) :
    Calls Try.prog 3 #[.int .i64 n, v] w fun e w' => e = .returned (.bool true) ∧ Ext w w' := by
  obtain ⟨a, c, a2, c2, rfl, -, -, -, -, -, -⟩ := h.open
  have H := Lib.hid h; clear h
  have HR := Lib.hid hr; clear hr
  go_enter Try.func3, Try.ntmps3
  go_wp2_with fail
  refine (sane41_ok _).mono ?_
  rintro e w1 ⟨rfl, hx⟩
  have hE := ((Ext.refl w).alloc _).trans hx
  have B0 := Lib.hid ((Box.new w _ _).keep hx)
  clear hx
  obtain ⟨c00, c01, c02, c03, -, -, -, -⟩ := B0.out.four
  by_cases hn : 60 < n ∧ n ≤ 4096
  · obtain ⟨hn1, hn2⟩ := hn
    go_wp2_with fail
    go_ret
    exact ⟨rfl, hE⟩
  have hn' : n ≤ 60 ∨ 4096 < n := by omega
  clear hn
  rcases hn' with hn | hn
  all_goals
    go_wp2_with fail
    refine (few_ok _ _ d (H.out.keep hE) HR.out).mono ?_
    rintro e w2 ⟨rfl, hx⟩
    have C0 := Lib.hid (B0.out.keep hx); clear B0 c00 c01 c02 c03
    have hE2 := hE.trans hx
    clear hx hE
    cases hf : fewD d
    · go_wp2_with fail
      go_ret
      exact ⟨rfl, hE2⟩
    go_wp2_with fail
    refine (new_ok (S := No) _ n No.lt).mono ?_
    rintro e w3 ⟨v3, rfl, hd3, hx3⟩
    generalize hX : newD n = X at *
    have HX := Lib.hid hX; clear hX
    obtain ⟨x, xe⟩ := X
    obtain ⟨a4, c4, a5, c5, rfl, -, -, -, -, -, -⟩ := hd3.open
    have hx4 := hx3.alloc (.cells (dkCells a4 c4 a5 c5 x).toArray 25)
    have B3 := Lib.hid (Box.new w3 (dkCells a4 c4 a5 c5 x) 25)
    have HD3 := Lib.hid (hd3.keep ((Ext.refl w3).alloc (.cells (dkCells a4 c4 a5 c5 x).toArray 25)))
    have D0 := Lib.hid (C0.out.keep hx4); clear C0
    have hE4 := hE2.trans hx4; clear hE2
    clear hd3 hx3 hx4
    go_upto_region 6 with fail
    generalize w3.alloc (.cells (dkCells a4 c4 a5 c5 x).toArray 25) = w4 at *
    generalize w3.heap.size = n3 at *
    go_wp2_with fail
    have k0 := refNew_ok (S := No) w4 n No.lt
    rw [HX.out] at k0
    refine k0.mono ?_
    clear k0
    rintro e w5 ⟨v5, rfl, hd5, hx5⟩
    obtain ⟨a6, c6, a7, c7, rfl, -, -, -, -, -, -⟩ := hd5.open
    have hx6 := hx5.alloc (.cells (dkCells a6 c6 a7 c7 x).toArray 25)
    have B5 := Lib.hid (Box.new w5 (dkCells a6 c6 a7 c7 x) 25)
    have HD5 := Lib.hid (hd5.keep ((Ext.refl w5).alloc (.cells (dkCells a6 c6 a7 c7 x).toArray 25)))
    have E0 := Lib.hid (D0.out.keep hx6); clear D0
    have E3 := Lib.hid (B3.out.keep hx6); clear B3
    have HE3 := Lib.hid (HD3.out.keep hx6); clear HD3
    have hE6 := hE4.trans hx6; clear hE4
    clear hd5 hx5 hx6
    go_upto_region 7 with fail
    generalize w5.alloc (.cells (dkCells a6 c6 a7 c7 x).toArray 25) = w6 at *
    generalize w5.heap.size = n5 at *
    obtain ⟨c00, c01, c02, c03, -, -, -, -⟩ := E0.out.four
    obtain ⟨c30, c31, c32, c33, -, -, -, -⟩ := E3.out.four
    obtain ⟨c50, c51, c52, c53, -, -, -, -⟩ := B5.out.four
    generalize w.heap.size = n0 at *
    go_region_held3 (fun w' : World => Ext w6 w' ∧ (w'.cell? ⟨n0, 0, none⟩ = some (.slice a d.sectors.length c) ∧ w'.cell? ⟨n0, 1, none⟩ = some (.slice a2 d.pending.length c2) ∧ w'.cell? ⟨n0, 2, none⟩ = some (.int .i64 d.left) ∧ w'.cell? ⟨n0, 3, none⟩ = some (.bool d.stopped)) ∧
        (w'.cell? ⟨n3, 0, none⟩ = some (.slice a4 x.sectors.length c4) ∧ w'.cell? ⟨n3, 1, none⟩ = some (.slice a5 x.pending.length c5) ∧ w'.cell? ⟨n3, 2, none⟩ = some (.int .i64 x.left) ∧ w'.cell? ⟨n3, 3, none⟩ = some (.bool x.stopped)) ∧
        (w'.cell? ⟨n5, 0, none⟩ = some (.slice a6 x.sectors.length c6) ∧ w'.cell? ⟨n5, 1, none⟩ = some (.slice a7 x.pending.length c7) ∧ w'.cell? ⟨n5, 2, none⟩ = some (.int .i64 x.left) ∧ w'.cell? ⟨n5, 3, none⟩ = some (.bool x.stopped)))
      (refine ⟨?_, ⟨Ext.cell ?_ c00, Ext.cell ?_ c01, Ext.cell ?_ c02, Ext.cell ?_ c03⟩, ⟨Ext.cell ?_ c30, Ext.cell ?_ c31, Ext.cell ?_ c32, Ext.cell ?_ c33⟩, Ext.cell ?_ c50, Ext.cell ?_ c51, Ext.cell ?_ c52, Ext.cell ?_ c53⟩ <;> (repeat (first | exact Ext.refl _ | assumption | refine Ext.drew ?_)))
      (first
        | (go_at_call 21; with_reducible refine (sameT _ _ _ x (HE3.out.keep (And.left ‹Ext w6 _ ∧ _›)) (HD5.out.keep (And.left ‹Ext w6 _ ∧ _›))).mono ?_; rintro e w9 ⟨rfl, hx9⟩; have hxx9 : Ext w6 w9 := Ext.trans (And.left ‹Ext w6 _ ∧ _›) hx9)
        | (go_at_call 21; with_reducible refine (sameT _ _ _ (restartD d) hd24 (hd25.keep hx24)).mono ?_; rintro e w9 ⟨rfl, hx9⟩; have hxx9 : Ext w6 w9 := Ext.trans (And.left ‹Ext w6 _ ∧ _›) hx9)
        | (go_at_call 21; with_reducible refine (sameT _ _ _ (restartD d) (hd24.keep hx25) hd25).mono ?_; rintro e w9 ⟨rfl, hx9⟩; have hxx9 : Ext w6 w9 := Ext.trans (And.left ‹Ext w6 _ ∧ _›) hx9)
        | (go_at_call 22; with_reducible refine (check_ok _ _ d (H.out.keep (hE6.trans (And.left ‹Ext w6 _ ∧ _›)))).mono ?_; rintro e w10 ⟨rfl, hx10⟩; have hxx10 : Ext w6 w10 := Ext.trans (And.left ‹Ext w6 _ ∧ _›) hx10)
        | (go_at_call 23; with_reducible refine (refCheck_ok _ _ d (H.out.keep (hE6.trans (And.left ‹Ext w6 _ ∧ _›)))).mono ?_; rintro e w11 ⟨rfl, hx11⟩; have hxx11 : Ext w6 w11 := Ext.trans (And.left ‹Ext w6 _ ∧ _›) hx11)
        | (go_at_call 24; with_reducible refine (restart_ok _ _ d (H.out.keep (hE6.trans (And.left ‹Ext w6 _ ∧ _›)))).mono ?_; rintro e w12 ⟨v12, rfl, hd24, hx24⟩; obtain ⟨a12, c12, a13, c13, rfl, _, _, _, _, _, _⟩ := hd24.open; have hxx12 : Ext w6 w12 := Ext.trans (And.left ‹Ext w6 _ ∧ _›) hx24)
        | (go_at_call 25; with_reducible refine (refRestart_ok _ _ d (H.out.keep (hE6.trans (And.left ‹Ext w6 _ ∧ _›)))).mono ?_; rintro e w13 ⟨v13, rfl, hd25, hx25⟩; obtain ⟨a14, c14, a15, c15, rfl, _, _, _, _, _, _⟩ := hd25.open; have hxx13 : Ext w6 w13 := Ext.trans (And.left ‹Ext w6 _ ∧ _›) hx25))
    all_goals
      go_wp2_with fail
      go_ret
      exact ⟨rfl, hE6.trans (And.left ‹Ext w6 _ ∧ _›)⟩
end Go.Proofs.Ytpciankfpagnhaa
