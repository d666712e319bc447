/- What double of the law does. -/
import Derived.Test.YtpciankfpagnhaaD11
namespace Go.Proofs.Ytpciankfpagnhaa
open Go.RowKit

/-- The bytes of a sector both halves of which begin with a byte. -/
def dbl (c : UInt8) : List UInt8 := ((List.replicate 128 0).set 0 c).set 64 c
theorem dbl_bv (c : UInt8) : bv (dbl c) = ((List.replicate 128 (Value.int .u8 0)).set 0 (.int .u8 (c.toNat : Int))).set 64 (.int .u8 (c.toNat : Int)) := by
  unfold dbl bv
  rw [List.map_set, List.map_set, List.map_replicate]; rfl
theorem dbl_length (c : UInt8) : (dbl c).length = 128 := by unfold dbl; simp

def zL : List Value := List.replicate 128 (.int .u8 0)
theorem zL_length : zL.length = 128 := by unfold zL; simp
theorem make128' (w : World) : (Instr.makeSlice 35 (.int .i64 128) (.int .i64 128)).run Try.prog w = .ok (.slice (some ⟨w.heap.size, 0, none⟩) 128 128) (w.alloc (.cells zL.toArray 5)) := by kernel_rfl

set_option maxRecDepth 100000 in
set_option maxHeartbeats 1000000 in
theorem double_ok {S : Nat → Prop} (w : World) (c : UInt8) (hS : ∀ k, S k → k < w.heap.size) : Calls Try.prog 34 #[.int .u8 (c.toNat : Int)] w (SlRet 1 eByte S w (dbl c)) := by
  have HS := Lib.hid hS; clear hS
  have hmk := make128'
  have hlt := c.toNat_lt
  have B0 := Lib.hid (Box.new w zL 5)
  go_enter Try.func34, Try.ntmps34
  go_wp2_with (with_reducible refine wpList_store_cell rfl 5 (.tmp 9) _ rfl w.heap.size 0 _ _ rfl rfl B0.out ?_ ?_ ?_ ?_)
  case refine_1 => kernel_rfl
  case refine_2 => first | (rw [zL_length]; decide) | (rw [List.length_set, zL_length]; decide)
  case refine_3 => rfl
  intro w1 hb1 ho1
  have HB1 := Lib.hid hb1; clear hb1
  have hE1 := ho1.ext ((Ext.refl w).alloc _) (Nat.le_refl _)
  go_wp2_with (with_reducible refine wpList_store_cell rfl 5 (.tmp 10) _ rfl w.heap.size 64 _ _ rfl rfl HB1.out ?_ ?_ ?_ ?_)
  case refine_1 => kernel_rfl
  case refine_2 => first | (rw [zL_length]; decide) | (rw [List.length_set, zL_length]; decide)
  case refine_3 => rfl
  intro w2 hb2 ho2
  have hE2 := ho2.ext hE1 (Nat.le_refl _)
  have HB2 := Lib.hid hb2; clear hb2
  go_wp2_with fail
  go_ret
  refine ⟨.slice (some ⟨w.heap.size, 0, none⟩) 128 128, rfl, ?_, hE2⟩
  obtain ⟨t, ht⟩ := HB2.out
  unfold zL at ht
  rw [← dbl_bv] at ht
  exact Bs.whole ht (fun h => absurd (HS.out _ h) (Nat.lt_irrefl _)) (dbl_length c).symm (by rw [dbl_length]; exact Nat.le_refl _) (by decide)
end Go.Proofs.Ytpciankfpagnhaa
