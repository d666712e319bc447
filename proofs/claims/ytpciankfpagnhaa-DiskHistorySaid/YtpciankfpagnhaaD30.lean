/- What holds of the laws of layer 41 does. -/
import Derived.Test.YtpciankfpagnhaaM9
import Derived.Test.YtpciankfpagnhaaD13
import Derived.Deep.QuietTactic
import Derived.BigQuiet
import Derived.Deep.DeepCutAuto
namespace Go.Proofs.Ytpciankfpagnhaa
open Go.RowKit

theorem bv_getD (f : List UInt8) (k : Nat) (hk : k < f.length) : (bv f)[k]? = some (.int .u8 ((f.getD k 0).toNat : Int)) := by
  unfold bv
  rw [List.getElem?_map, List.getD_eq_getElem?_getD, List.getElem?_eq_getElem hk]
  rfl
/-- An array of four bytes, as a value. -/
abbrev arr4 (f : List UInt8) : Value := .agg (bv f).toArray

set_option maxRecDepth 100000 in
set_option maxHeartbeats 2000000 in
theorem holds_ok {S : Nat → Prop} (w : World) (v : Value) (d : Dk) (f0 f1 f2 f3 s0 s1 s2 s3 : UInt8) (h : Disk S w v d) (hh : Holds d [f0, f1, f2, f3] [s0, s1, s2, s3]) :
    Calls Try.prog 35 #[v, .agg #[.int .u8 (f0.toNat : Int), .int .u8 (f1.toNat : Int), .int .u8 (f2.toNat : Int), .int .u8 (f3.toNat : Int)], .agg #[.int .u8 (s0.toNat : Int), .int .u8 (s1.toNat : Int), .int .u8 (s2.toNat : Int), .int .u8 (s3.toNat : Int)]] w fun e w' => e = .returned (.bool true) ∧ Ext w w' := by
  obtain ⟨a, c, a2, c2, rfl, -, -, -, -, -, -⟩ := h.open
  have H := Lib.hid h; clear h
  obtain ⟨hr, h4, -, -, hrd⟩ := hh
  have HR := Lib.hid hr; clear hr
  have H4 := Lib.hid h4; clear h4
  have HRD := Lib.hid hrd; clear hrd
  go_enter Try.func35, Try.ntmps35
  go_upto_region 1 with fail
  have hE := (((Ext.refl w).alloc (.cells #[.slice a d.sectors.length c, .slice a2 d.pending.length c2, .int .i64 d.left, .bool d.stopped] 25)).alloc (.cells #[.int .u8 (f0.toNat : Int), .int .u8 (f1.toNat : Int), .int .u8 (f2.toNat : Int), .int .u8 (f3.toNat : Int)] 44)).alloc (.cells #[.int .u8 (s0.toNat : Int), .int .u8 (s1.toNat : Int), .int .u8 (s2.toNat : Int), .int .u8 (s3.toNat : Int)] 44)
  have B0 := Lib.hid (((Box.new w [.slice a d.sectors.length c, .slice a2 d.pending.length c2, .int .i64 d.left, .bool d.stopped] 25).past (.cells #[.int .u8 (f0.toNat : Int), .int .u8 (f1.toNat : Int), .int .u8 (f2.toNat : Int), .int .u8 (f3.toNat : Int)] 44)).past (.cells #[.int .u8 (s0.toNat : Int), .int .u8 (s1.toNat : Int), .int .u8 (s2.toNat : Int), .int .u8 (s3.toNat : Int)] 44))
  have B1 := Lib.hid ((Box.at (w := w.alloc (.cells #[.slice a d.sectors.length c, .slice a2 d.pending.length c2, .int .i64 d.left, .bool d.stopped] 25)) (cs := bv [f0, f1, f2, f3]) (t := 44) (b := w.heap.size + 1) (by simp)).past (.cells #[.int .u8 (s0.toNat : Int), .int .u8 (s1.toNat : Int), .int .u8 (s2.toNat : Int), .int .u8 (s3.toNat : Int)] 44))
  have B2 := Lib.hid (Box.at (w := (w.alloc (.cells #[.slice a d.sectors.length c, .slice a2 d.pending.length c2, .int .i64 d.left, .bool d.stopped] 25)).alloc (.cells #[.int .u8 (f0.toNat : Int), .int .u8 (f1.toNat : Int), .int .u8 (f2.toNat : Int), .int .u8 (f3.toNat : Int)] 44)) (cs := bv [s0, s1, s2, s3]) (t := 44) (b := w.heap.size + 2) (by simp))
  have hB1 : ∀ W, Box W (w.heap.size + 1) (bv [f0, f1, f2, f3]) → ∀ k : Nat, k < 4 → W.cell? ⟨w.heap.size + 1, k, none⟩ = some (.int .u8 (([f0, f1, f2, f3].getD k 0).toNat : Int)) := fun W hb k hk => (hb.own k _ (bv_getD _ k hk)).1
  have hB2 : ∀ W, Box W (w.heap.size + 2) (bv [s0, s1, s2, s3]) → ∀ k : Nat, k < 4 → W.cell? ⟨w.heap.size + 2, k, none⟩ = some (.int .u8 (([s0, s1, s2, s3].getD k 0).toNat : Int)) := fun W hb k hk => (hb.own k _ (bv_getD _ k hk)).1
  have HB1 := Lib.hid hB1; clear hB1
  have HB2 := Lib.hid hB2; clear hB2
  generalize hW3 : ((w.alloc (.cells #[.slice a d.sectors.length c, .slice a2 d.pending.length c2, .int .i64 d.left, .bool d.stopped] 25)).alloc (.cells #[.int .u8 (f0.toNat : Int), .int .u8 (f1.toNat : Int), .int .u8 (f2.toNat : Int), .int .u8 (f3.toNat : Int)] 44)).alloc (.cells #[.int .u8 (s0.toNat : Int), .int .u8 (s1.toNat : Int), .int .u8 (s2.toNat : Int), .int .u8 (s3.toNat : Int)] 44) = w3
  have HW3 := Lib.hid hW3
  have hE3 : Ext w w3 := hW3 ▸ hE
  have C0 : Hid (Box w3 w.heap.size [.slice a d.sectors.length c, .slice a2 d.pending.length c2, .int .i64 d.left, .bool d.stopped]) := hW3 ▸ B0
  have C1 : Hid (Box w3 (w.heap.size + 1) (bv [f0, f1, f2, f3])) := hW3 ▸ B1
  have C2 : Hid (Box w3 (w.heap.size + 2) (bv [s0, s1, s2, s3])) := hW3 ▸ B2
  clear hW3 hE B0 B1 B2 HW3
  go_wp2_with fail
  go_loopw [7] (fun i wr => ∃ k : Nat, k ≤ 4 ∧ i = .int .i64 k ∧ Ext w3 wr) (fun i _ => 4 - (intOf i).toNat)
  case atStart => exact ⟨0, Nat.zero_le _, rfl, Ext.refl _⟩
  case round =>
    obtain ⟨k, hk, rfl, hx⟩ := hrel
    by_cases hlt : k < 4
    · have hEr := hE3.trans hx
      obtain ⟨c00, c01, c02, c03, -, -, -, -⟩ := (C0.out.keep hx).four
      have hlt' : (k : Int) < 4 := by omega
      have hk0 : (0 : Int) ≤ k := by omega
      go_wp2_with fail
      have k0 := read_ok wr _ d k (H.out.keep hEr)
      rw [read_yes HR.out ((hasD_iff _ _).2 ⟨by omega, by rw [H4.out]; omega⟩), HRD.out k hlt] at k0
      refine k0.mono ?_
      clear k0 c00 c01 c02 c03
      rintro e w4 ⟨v4, rfl, hb4, hx4⟩
      obtain ⟨a4, c4, rfl, hc4, hm4⟩ := hb4.open
      have hx5 := hx.trans hx4
      have p0 := HB1.out w4 (C1.out.keep hx5) k hlt
      have p1 := HB2.out w4 (C2.out.keep hx5) k hlt
      generalize [f0, f1, f2, f3].getD k 0 = f at *
      generalize [s0, s1, s2, s3].getD k 0 = s at *
      have hl4 := sec2_length f s
      obtain ⟨b, o, rfl, hb, hcc⟩ := hb4.cells (by simp only; rw [hl4]; decide)
      simp only at hcc
      have y0 := hcc 0 (.int .u8 (f.toNat : Int)) rfl
      have y64 := hcc 64 (.int .u8 (s.toNat : Int)) rfl
      have y1 := hcc 1 (.int .u8 0) rfl
      have y127 := hcc 127 (.int .u8 0) rfl
      have hn : 128 ≤ (sec2 f s).length ∧ (sec2 f s).length ≤ 128 := by omega
      clear hcc hb4 hl4 hc4
      simp only
      generalize (sec2 f s).length = n at *
      obtain ⟨hn1, hn2⟩ := hn
      rw [Nat.add_zero] at y0
      have q0 : ((n : Int) != 128) = false := by rw [bne_eq_false_iff_eq]; omega
      have q1 : ((f.toNat : Int) != (f.toNat : Int)) = false := bne_self_eq_false _
      have q2 : ((s.toNat : Int) != (s.toNat : Int)) = false := bne_self_eq_false _
      have i0 : (0 : Int) < n := by omega
      have i1 : (1 : Int) < n := by omega
      have i2 : (64 : Int) < n := by omega
      have i3 : (127 : Int) < n := by omega
      go_upto_region 5 with fail
      go_quiet (fail)
      generalize hwq : w4.drewN nq = wq at *
      have hxq : Ext w4 wq := hwq ▸ Ext.drewN w4 nq
      clear hwq q0 q1 q2 i0 i1 i2 i3 y0 y64 y1 y127 p0 p1
      go_wp2_with fail
      go_roundw
      case rel => exact ⟨k + 1, by omega, by go_num, hx5.trans hxq⟩
      case measure => simp [intOf]; omega
    · obtain rfl : 4 = k := by omega
      go_wp2_with fail
      go_ret
      exact ⟨rfl, hE3.trans hx⟩
end Go.Proofs.Ytpciankfpagnhaa
