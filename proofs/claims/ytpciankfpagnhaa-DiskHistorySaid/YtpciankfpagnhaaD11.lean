/- What disk.New does. -/
import Derived.Test.YtpciankfpagnhaaD10
namespace Go.Proofs.Ytpciankfpagnhaa
open Go.RowKit

/-- What New answers. -/
def newD (n : Int) : Dk × Int :=
  if n < 1 ∨ 4096 < n then (zeroD, 1) else ({ sectors := List.replicate n.toNat (List.replicate 128 0), pending := [], left := -1, stopped := false }, 0)
theorem bv_zeros (n : Nat) : bv (List.replicate n 0) = List.replicate n (.int .u8 0) := by unfold bv; rw [List.map_replicate]; rfl

set_option maxHeartbeats 1000000 in
theorem new_ok {S : Nat → Prop} (w : World) (n : Int) (hS : ∀ k, S k → k < w.heap.size) : Calls Try.prog 19 #[.int .i64 n] w (DiskErr S w (newD n)) := by
  have HS := Lib.hid hS; clear hS
  have hmk := make128
  by_cases h1 : n < 1
  · go_enter Try.func19, Try.ntmps19
    go_wp2_with fail
    refine bodyPost_ret (v := .tuple #[.agg #[.slice none 0 0, .slice none 0 0, .int .i64 0, .bool false], .int .i64 1]) (by simp [results, Try.results19, go_sem]) rfl (DiskErr.mk (by unfold newD; rw [if_pos (by omega)]) (zeroD_disk _ _) ?_)
    repeat (first | exact (Ext.refl _).alloc _ | refine Ext.setCell ?_ (by simp) _)
  by_cases h2 : 4096 < n
  · go_enter Try.func19, Try.ntmps19
    go_wp2_with fail
    refine bodyPost_ret (v := .tuple #[.agg #[.slice none 0 0, .slice none 0 0, .int .i64 0, .bool false], .int .i64 1]) (by simp [results, Try.results19, go_sem]) rfl (DiskErr.mk (by unfold newD; rw [if_pos (by omega)]) (zeroD_disk _ _) ?_)
    repeat (first | exact (Ext.refl _).alloc _ | refine Ext.setCell ?_ (by simp) _)
  obtain ⟨m, rfl⟩ := Int.eq_ofNat_of_zero_le (by omega : 0 ≤ n)
  go_enter Try.func19, Try.ntmps19
  go_wp2_with fail
  refine (repeat_ok (S := Bx S w.heap.size (w.heap.size + 1)) _ (w.heap.size + 2) (.slice (some ⟨w.heap.size + 1, 0, none⟩) 128 128) (List.replicate 128 0) m ?_ (by simp) (by go_simp) ?_ (by omega) (by omega)).mono ?_
  · refine Bs.keep (Bs.whole (t := 5) ?_ ?_ (by simp) (by simp) (by decide)) ((Ext.refl _).alloc _)
    · rw [bv_zeros]
      have := heap_alloc_new (w.alloc (.cells #[.slice none 0 0, .slice none 0 0, .int .i64 0, .bool false] 25)) (.cells (zerosV 128) 5)
      simpa [zerosV] using this
    · intro h
      rcases h with h | h
      · have := HS.out _ h; omega
      · omega
  · exact fun k hk => Nat.lt_of_lt_of_le (Bx.lt HS.out (Nat.le_succ _) (Nat.le_refl _) k hk) (by simp)
  rintro e w1 ⟨v1, rfl, hv1, hx1⟩
  obtain ⟨a1, c1, rfl, hc1, hm1⟩ := hv1.open
  have hE := ((((Ext.refl w).alloc _).alloc _).alloc _).trans hx1
  have B0 := (((Box.new w _ 25).past _).past _).keep hx1
  have hs : w.heap.size < w1.heap.size := B0.lt
  clear hx1 hmk
  have HB := Lib.hid B0; clear B0
  obtain ⟨c10, c11, c12, c13, f10, f11, f12, f13⟩ := HB.out.four
  have HV := Lib.hid hv1; clear hv1
  go_wp2_with (with_reducible refine wpList_store_box rfl 25 _ _ rfl w.heap.size [_, _, _, _] _ rfl rfl HB.out ?_ ?_ ?_ ?_)
  case refine_1 => kernel_rfl
  case refine_2 => rfl
  case refine_3 => rfl
  intro w2 hb2 ho2
  clear c10 c11 c12 c13 f10 f11 f12 f13
  obtain ⟨c10, c11, c12, c13, f10, f11, f12, f13⟩ := hb2.four
  go_wp2_with fail
  refine bodyPost_ret (v := .tuple #[.agg #[.slice a1 (List.replicate m (List.replicate 128 (0 : UInt8))).length c1, .slice none 0 0, .int .i64 (-1), .bool false], .int .i64 0]) (by simp [results, Try.results19, go_sem, c10, c11, c12, c13]) rfl (DiskErr.mk (d := { sectors := List.replicate m (List.replicate 128 0), pending := [], left := -1, stopped := false }) ?_ (Disk.mk' ((HV.out.keepM etBs (ho2.mem (.inr (by simp)))).more etBs Bx.less) (Sl.nil _ _ _ _)) (ho2.ext hE (Nat.le_refl _)))
  unfold newD; rw [if_neg (by omega)]; simp
end Go.Proofs.Ytpciankfpagnhaa
