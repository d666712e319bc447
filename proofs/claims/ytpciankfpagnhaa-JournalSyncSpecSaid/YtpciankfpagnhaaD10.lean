/- What slices.Repeat does for disk.New. -/
import Derived.Test.YtpciankfpagnhaaD4
import Derived.Test.YtpciankfpagnhaaM1
import Derived.Test.YtpciankfpagnhaaLShelf
import Derived.Deep.RegionHeld3
namespace Go.Proofs.Ytpciankfpagnhaa
open Go.RowKit

/-- The cells of a slice of so many nil slices, of which the first are v. -/
def mixV (m n : Nat) (v : Value) : List Value := List.replicate m v ++ List.replicate (n - m) (.slice none 0 0)
theorem mixV_length (m n : Nat) (v : Value) (h : m ≤ n) : (mixV m n v).length = n := by unfold mixV; simp; omega
theorem made_nils (n : Nat) (v : Value) : madeCells (Value.cells (.slice none 0 0)) (n * 1) = (mixV 0 n v).toArray := by
  unfold madeCells mixV
  apply Array.ext
  · simp [Value.cells]
  · intro i h1 h2
    simp [Value.cells, Nat.mod_one]
theorem make_nils (n : Nat) (hn : n ≤ 4096) (v : Value) (w : World) : (Instr.makeSlice 22 (.int .i64 n) (.int .i64 n)).run Try.prog w = .ok (.slice (some ⟨w.heap.size, 0, none⟩) n n) (w.alloc (.cells (mixV 0 n v).toArray 35)) := by
  obtain ⟨ht, _, i, z, hi, hz, q1, q2, q3⟩ := atBs
  have hz' : z = .slice none 0 0 := by
    have : (Try.prog.info? 35).map (fun i => i.zero) = some (some (.slice none 0 0)) := by kernel_rfl
    rw [hi] at this; simp at this; rw [hz] at this; simpa using this
  have := run_makeSlice (P := Try.prog) w 22 35 i z ht hi hz .i64 .i64 n n (by omega) (Int.le_refl _) (by rw [q1]; simp; omega) (by rw [q2]; omega) (by omega)
  rw [this, q1, hz', Int.toNat_natCast, made_nils n v]
theorem mix_splice (m n k : Nat) (v : Value) (h : m + k ≤ n) : splice (mixV m n v) m (List.replicate k v) = mixV (m + k) n v := by
  unfold splice mixV
  simp only [List.length_replicate]
  rw [List.take_append_of_le_length (by simp), List.take_of_length_le (by simp), List.drop_append, List.drop_eq_nil_of_le (by simp)]
  simp only [List.length_replicate, List.nil_append, List.drop_replicate]
  rw [← List.append_assoc, List.replicate_append_replicate]
  congr 2; omega

set_option maxHeartbeats 1000000 in
set_option maxRecDepth 100000 in
theorem repeat_ok {S : Nat → Prop} (w : World) (bx : Nat) (vz : Value) (z : List UInt8) (n : Nat) (hz : Bs S w vz z) (hbx : bx < w.heap.size) (hc : w.cell? ⟨bx, 0, none⟩ = some vz) (hS : ∀ k, S k → k < w.heap.size) (h1 : 1 ≤ n) (h2 : n ≤ 4096) :
    Calls Try.prog 51 #[.slice (some ⟨bx, 0, none⟩) 1 1, .int .i64 n] w (SlRet 1 eBs S w (List.replicate n z)) := by
  have HZ := Lib.hid hz; clear hz
  have HS := Lib.hid hS; clear hS
  have hm := Try.bits_Mul 1 n (by omega) (by omega) w
  rw [Nat.one_mul, Nat.div_eq_of_lt (by omega), Nat.mod_eq_of_lt (by omega)] at hm
  have HM := Lib.hid hm; clear hm
  have hmk := make_nils n h2 vz
  have hn0 : ¬ (n : Int) < 0 := by omega
  go_enter Try.func51, Try.ntmps51
  go_wp2_with fail
  refine HM.out.mono ?_
  rintro e w' ⟨rfl, hw⟩
  have hw' := hw.symm
  subst hw'
  clear HM hw
  have hone := HZ.out.oneCell
  have HONE := Lib.hid hone; clear hone
  go_wp2_with (refine wpList_copy_splice rfl (.tmp 31) (.tmp 32) 22 22 rfl 35 Try.underlying22 (by kernel_rfl) _ _ _ _ _ _ rfl rfl w.heap.size 0 (mixV 0 n vz) 35 ?hg [vz] ?hn ?hpos ?hfit ?hone w.heap.size w ?hb (Nat.le_refl _) ?_)
  case hg => exact heap_alloc_new w _
  case hn => show 1 = Nat.min 1 n; exact (Nat.min_eq_left (by omega)).symm
  case hpos =>
    have q : ∀ j u, [vz][j]? = some u → (w.alloc (.cells (mixV 0 n vz).toArray 35)).cell? ((⟨bx, 0, none⟩ : Addr).add j) = some u := by
      intro j u hj
      rw [Addr.add_lit, World.cell?_alloc_past _ _ _ hbx]
      match j with
      | 0 => simp at hj; subst hj; simpa using hc
      | (k + 1) => simp at hj
    first | exact fun _ => ⟨rfl, _, rfl, q⟩ | exact fun _ => ⟨_, rfl, q⟩ | (intro j u hj; have := q j u hj; simpa [Addr.add_lit, World.cell?_alloc_past _ _ _ hbx] using this)
  case hfit => rw [mixV_length _ _ _ (by omega)]; simp; omega
  case hone => intro u hu; simp at hu; subst hu; exact HONE.out
  case hb => exact (Ext.refl w).alloc _
  intro w1 hg1 hb1
  have hg1' : w1.heap[w.heap.size]? = some (.cells (mixV 1 n vz).toArray 35 (0, 0)) := by
    have := hg1.out
    rwa [show ([vz] : List Value) = List.replicate 1 vz from rfl, mix_splice 0 n 1 vz (by omega)] at this
  clear hg1 hmk
  go_wp2_with fail
  go_loopw [8] (fun i wr => ∃ m : Nat, 1 ≤ m ∧ m ≤ n ∧ i = .int .i64 m ∧ Ext w wr ∧ Hid (wr.heap[w.heap.size]? = some (.cells (mixV m n vz).toArray 35 (0, 0)))) (fun i _ => n - (intOf i).toNat)
  case atStart => exact ⟨1, Nat.le_refl _, h1, rfl, hb1, hg1'⟩
  case round =>
    obtain ⟨m, hm1, hm2, rfl, hx, hg⟩ := hrel
    by_cases hlt : m < n
    · have hi1 : (m : Int) < n := by omega
      have hi2 : (m : Int) ≤ n := by omega
      have hi3 : (0 : Int) ≤ m := by omega
      have hg' : wr.drew.heap[w.heap.size]? = some (.cells (mixV m n vz).toArray 35 (0, 0)) := hg.out
      have HG := Lib.hid hg'; clear hg'
      have hsrc : ∀ j u, (List.replicate (min m (n - m)) vz)[j]? = some u → wr.drew.cell? ((⟨w.heap.size, 0, none⟩ : Addr).add j) = some u := by
        intro j u hj
        rw [List.getElem?_replicate] at hj
        split at hj
        · cases hj
          rename_i hj'
          rw [Addr.add_lit, Nat.zero_add]
          simp only [World.cell?, HG.out]
          have hjm : j < m := by omega
          unfold mixV
          simp [List.getElem?_append, hjm]
        · cases hj
      have HSRC := Lib.hid hsrc; clear hsrc
      have hne : ¬ n = m := by omega
      have HNE := Lib.hid hne; clear hne
      have hkl : (List.replicate (min m (n - m)) vz).length = Nat.min m (n - m) := by simp
      have HKL := Lib.hid hkl; clear hkl
      have hfit : m + (List.replicate (min m (n - m)) vz).length ≤ (mixV m n vz).length := by rw [mixV_length _ _ _ hm2, List.length_replicate]; omega
      have HFIT := Lib.hid hfit; clear hfit
      go_wp2_with fail
      go_region_held3 (fun w' : World => True) (exact trivial) (first | (refine step_copy_splice rfl (.tmp 41) (.tmp 44) 22 22 rfl 35 Try.underlying22 (by kernel_rfl) _ _ (n - m) _ m _ rfl rfl w.heap.size m (mixV m n vz) 35 HG.out (List.replicate (min m (n - m)) vz) HKL.out (fun _ => ⟨if_neg HNE.out, _, rfl, HSRC.out⟩) HFIT.out (fun u hu => by rw [List.eq_of_mem_replicate hu]; exact HONE.out) w.heap.size w hx.drew (Nat.le_refl _) ?_; intro w2 hg2 hb2))
      have hg2' : w2.heap[w.heap.size]? = some (.cells (mixV (m + min m (n - m)) n vz).toArray 35 (0, 0)) := by
        have := hg2.out
        rwa [mix_splice m n _ vz (by omega)] at this
      have HG2 := Lib.hid hg2'; clear hg2' hg2
      go_wp2_with fail
      have hwr : IntKind.i64.wrap ((m : Int) + ((min m (n - m) : Nat) : Int)) = ((m + min m (n - m) : Nat) : Int) := by rw [IntWalk.i64_in _ (by omega)]; omega
      go_roundw
      case rel => exact ⟨m + min m (n - m), by omega, by omega, by simp [hwr], hb2, HG2.out⟩
      case measure => simp only [intOf]; first | (rw [hwr]; omega) | (simp [hwr, intOf]; omega)
    · obtain rfl : m = n := by omega
      go_wp2_with fail
      go_ret
      refine ⟨.slice (some ⟨w.heap.size, 0, none⟩) m m, rfl, ?_, hx⟩
      refine ⟨some ⟨w.heap.size, 0, none⟩, m, List.replicate m vz, by rw [List.length_replicate], by rw [List.length_replicate]; exact Nat.le_refl _, by unfold maxLen; omega, by simp, ?_, .inr ⟨w.heap.size, 0, rfl, ⟨?_, fun h => absurd (HS.out _ h) (Nat.lt_irrefl _)⟩, ?_⟩⟩
      · intro i x hi
        rw [List.getElem?_replicate] at hi
        split at hi
        · cases hi
          rename_i him
          refine ⟨vz, ?_, HZ.out.keep hx⟩
          rw [Nat.mul_one, List.drop_replicate, List.take_replicate]
          have : min 1 (m - i) = 1 := by omega
          rw [this]; rfl
        · cases hi
      · exact (Box.lt (cs := mixV m m vz) ⟨35, hg.out⟩)
      · intro j u hj
        rw [Nat.zero_add]
        simp only [World.cell?, hg.out]
        show (mixV m m vz).toArray[j]? = some u
        rw [List.getElem?_toArray]
        unfold mixV
        rw [Nat.sub_self, List.replicate_zero, List.append_nil]
        exact hj
end Go.Proofs.Ytpciankfpagnhaa

/- What disk.New does. -/
namespace Go.Proofs.Ytpciankfpagnhaa
open Go.RowKit

/-- What New answers. -/
def newD (n : Int) : Dk × Int :=
  if n < 1 ∨ 4096 < n then (zeroD, 1) else ({ sectors := List.replicate n.toNat (List.replicate 128 0), pending := [], left := -1, stopped := false }, 0)
theorem bv_zeros (n : Nat) : bv (List.replicate n 0) = List.replicate n (.int .u8 0) := by unfold bv; rw [List.map_replicate]; rfl

set_option maxHeartbeats 1000000 in
theorem new_ok {S : Nat → Prop} (w : World) (n : Int) (hS : ∀ k, S k → k < w.heap.size) : Calls Try.prog 19 #[.int .i64 n] w (DiskErr S w (newD n)) := by
  have HS := Lib.hid hS; clear hS
  have hmk := make128
  by_cases h1 : n < 1
  · go_enter Try.func19, Try.ntmps19
    go_wp2_with fail
    refine bodyPost_ret (v := .tuple #[.agg #[.slice none 0 0, .slice none 0 0, .int .i64 0, .bool false], .int .i64 1]) (by simp [results, Try.results19, go_sem]) rfl (DiskErr.mk (by unfold newD; rw [if_pos (by omega)]) (zeroD_disk _ _) ?_)
    repeat (first | exact (Ext.refl _).alloc _ | refine Ext.setCell ?_ (by simp) _)
  by_cases h2 : 4096 < n
  · go_enter Try.func19, Try.ntmps19
    go_wp2_with fail
    refine bodyPost_ret (v := .tuple #[.agg #[.slice none 0 0, .slice none 0 0, .int .i64 0, .bool false], .int .i64 1]) (by simp [results, Try.results19, go_sem]) rfl (DiskErr.mk (by unfold newD; rw [if_pos (by omega)]) (zeroD_disk _ _) ?_)
    repeat (first | exact (Ext.refl _).alloc _ | refine Ext.setCell ?_ (by simp) _)
  obtain ⟨m, rfl⟩ := Int.eq_ofNat_of_zero_le (by omega : 0 ≤ n)
  go_enter Try.func19, Try.ntmps19
  go_wp2_with fail
  refine (repeat_ok (S := Bx S w.heap.size (w.heap.size + 1)) _ (w.heap.size + 2) (.slice (some ⟨w.heap.size + 1, 0, none⟩) 128 128) (List.replicate 128 0) m ?_ (by simp) (by go_simp) ?_ (by omega) (by omega)).mono ?_
  · refine Bs.keep (Bs.whole (t := 5) ?_ ?_ (by simp) (by simp) (by decide)) ((Ext.refl _).alloc _)
    · rw [bv_zeros]
      have := heap_alloc_new (w.alloc (.cells #[.slice none 0 0, .slice none 0 0, .int .i64 0, .bool false] 25)) (.cells (zerosV 128) 5)
      simpa [zerosV] using this
    · intro h
      rcases h with h | h
      · have := HS.out _ h; omega
      · omega
  · exact fun k hk => Nat.lt_of_lt_of_le (Bx.lt HS.out (Nat.le_succ _) (Nat.le_refl _) k hk) (by simp)
  rintro e w1 ⟨v1, rfl, hv1, hx1⟩
  obtain ⟨a1, c1, rfl, hc1, hm1⟩ := hv1.open
  have hE := ((((Ext.refl w).alloc _).alloc _).alloc _).trans hx1
  have B0 := (((Box.new w _ 25).past _).past _).keep hx1
  have hs : w.heap.size < w1.heap.size := B0.lt
  clear hx1 hmk
  have HB := Lib.hid B0; clear B0
  obtain ⟨c10, c11, c12, c13, f10, f11, f12, f13⟩ := HB.out.four
  have HV := Lib.hid hv1; clear hv1
  go_wp2_with (with_reducible refine wpList_store_box rfl 25 _ _ rfl w.heap.size [_, _, _, _] _ rfl rfl HB.out ?_ ?_ ?_ ?_)
  case refine_1 => kernel_rfl
  case refine_2 => rfl
  case refine_3 => rfl
  intro w2 hb2 ho2
  clear c10 c11 c12 c13 f10 f11 f12 f13
  obtain ⟨c10, c11, c12, c13, f10, f11, f12, f13⟩ := hb2.four
  go_wp2_with fail
  refine bodyPost_ret (v := .tuple #[.agg #[.slice a1 (List.replicate m (List.replicate 128 (0 : UInt8))).length c1, .slice none 0 0, .int .i64 (-1), .bool false], .int .i64 0]) (by simp [results, Try.results19, go_sem, c10, c11, c12, c13]) rfl (DiskErr.mk (d := { sectors := List.replicate m (List.replicate 128 0), pending := [], left := -1, stopped := false }) ?_ (Disk.mk' ((HV.out.keepM etBs (ho2.mem (.inr (by simp)))).more etBs Bx.less) (Sl.nil _ _ _ _)) (ho2.ext hE (Nat.le_refl _)))
  unfold newD; rw [if_neg (by omega)]; simp
end Go.Proofs.Ytpciankfpagnhaa

/- What double of the law does. -/
namespace Go.Proofs.Ytpciankfpagnhaa
open Go.RowKit

/-- The bytes of a sector both halves of which begin with a byte. -/
def dbl (c : UInt8) : List UInt8 := ((List.replicate 128 0).set 0 c).set 64 c
theorem dbl_bv (c : UInt8) : bv (dbl c) = ((List.replicate 128 (Value.int .u8 0)).set 0 (.int .u8 (c.toNat : Int))).set 64 (.int .u8 (c.toNat : Int)) := by
  unfold dbl bv
  rw [List.map_set, List.map_set, List.map_replicate]; rfl
theorem dbl_length (c : UInt8) : (dbl c).length = 128 := by unfold dbl; simp

def zL : List Value := List.replicate 128 (.int .u8 0)
theorem zL_length : zL.length = 128 := by unfold zL; simp
theorem make128' (w : World) : (Instr.makeSlice 35 (.int .i64 128) (.int .i64 128)).run Try.prog w = .ok (.slice (some ⟨w.heap.size, 0, none⟩) 128 128) (w.alloc (.cells zL.toArray 5)) := by kernel_rfl

set_option maxRecDepth 100000 in
set_option maxHeartbeats 1000000 in
theorem double_ok {S : Nat → Prop} (w : World) (c : UInt8) (hS : ∀ k, S k → k < w.heap.size) : Calls Try.prog 34 #[.int .u8 (c.toNat : Int)] w (SlRet 1 eByte S w (dbl c)) := by
  have HS := Lib.hid hS; clear hS
  have hmk := make128'
  have hlt := c.toNat_lt
  have B0 := Lib.hid (Box.new w zL 5)
  go_enter Try.func34, Try.ntmps34
  go_wp2_with (with_reducible refine wpList_store_cell rfl 5 (.tmp 9) _ rfl w.heap.size 0 _ _ rfl rfl B0.out ?_ ?_ ?_ ?_)
  case refine_1 => kernel_rfl
  case refine_2 => first | (rw [zL_length]; decide) | (rw [List.length_set, zL_length]; decide)
  case refine_3 => rfl
  intro w1 hb1 ho1
  have HB1 := Lib.hid hb1; clear hb1
  have hE1 := ho1.ext ((Ext.refl w).alloc _) (Nat.le_refl _)
  go_wp2_with (with_reducible refine wpList_store_cell rfl 5 (.tmp 10) _ rfl w.heap.size 64 _ _ rfl rfl HB1.out ?_ ?_ ?_ ?_)
  case refine_1 => kernel_rfl
  case refine_2 => first | (rw [zL_length]; decide) | (rw [List.length_set, zL_length]; decide)
  case refine_3 => rfl
  intro w2 hb2 ho2
  have hE2 := ho2.ext hE1 (Nat.le_refl _)
  have HB2 := Lib.hid hb2; clear hb2
  go_wp2_with fail
  go_ret
  refine ⟨.slice (some ⟨w.heap.size, 0, none⟩) 128 128, rfl, ?_, hE2⟩
  obtain ⟨t, ht⟩ := HB2.out
  unfold zL at ht
  rw [← dbl_bv] at ht
  exact Bs.whole ht (fun h => absurd (HS.out _ h) (Nat.lt_irrefl _)) (dbl_length c).symm (by rw [dbl_length]; exact Nat.le_refl _) (by decide)
end Go.Proofs.Ytpciankfpagnhaa
