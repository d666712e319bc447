/- What Read of the reference of layer 41 does. -/
import Derived.Test.YtpciankfpagnhaaD19
namespace Go.Proofs.Ytpciankfpagnhaa
open Go.RowKit

/-- What is read if only the first writes are looked at. -/
def readTo (d : Dk) (i : Int) (k : Nat) : List UInt8 := readL { d with pending := d.pending.take k } i
theorem readTo_zero (d : Dk) (i : Int) : readTo d i 0 = d.sectors.getD i.toNat [] := by simp [readTo, readL]
theorem readTo_all (d : Dk) (i : Int) : readTo d i d.pending.length = readL d i := by simp [readTo]
theorem readTo_succ (d : Dk) (i : Int) (k : Nat) (hk : k < d.pending.length) : readTo d i (k + 1) = if d.pending[k].at_ = i then d.pending[k].data else readTo d i k := by
  unfold readTo readL
  simp only [List.take_succ_eq_append_getElem hk, List.reverse_append, List.reverse_cons, List.reverse_nil, List.nil_append, List.singleton_append, List.find?_cons]
  by_cases h : d.pending[k].at_ = i
  · simp [h]
  · rw [if_neg h, show (d.pending[k].at_ == i) = false from by simpa using h]

set_option maxHeartbeats 2000000 in
set_option maxRecDepth 100000 in
theorem refRead_ok {S : Nat → Prop} (w : World) (v : Value) (d : Dk) (i : Int) (h : Disk S w v d) : Calls Try.prog 29 #[v, .int .i64 i] w (BytesErr S w (readD d i)) := by
  obtain ⟨a, c, a2, c2, rfl, hc, hm, hc2, hm2, h1, h2⟩ := h.open
  have H := Lib.hid h; clear h
  have H1 := Lib.hid h1; clear h1
  have H2 := Lib.hid h2; clear h2
  go_enter Try.func29, Try.ntmps29
  go_wp2_with fail
  refine (refCheck_ok _ _ d (H.out.keep ((Ext.refl _).alloc _))).mono ?_
  rintro e w1 ⟨rfl, hx⟩
  have hE := ((Ext.refl w).alloc _).trans hx
  have hs := hx.size
  simp only [World.size_alloc] at hs
  have hlt : w.heap.size < w1.heap.size := by omega
  obtain ⟨c00, c01, c02, c03, f00, f01, f02, f03⟩ := ((Box.new w _ _).keep hx).four
  clear hx hs
  have e0 := chk_bne d
  have J1 := Lib.hid (H1.out.keep hE); clear H1
  have J2 := Lib.hid (H2.out.keep hE); clear H2
  by_cases hr : runsD d = true
  · have hok : okD d = true ∧ d.stopped = false := by unfold runsD at hr; simp at hr; exact hr
    rw [hok.1] at e0
    rw [hok.2] at c03
    simp only [Bool.not_true] at e0
    have HK := Lib.hid hok; clear hok
    have HR := Lib.hid hr; clear hr
    by_cases h0 : i < 0
    · go_wp2_with fail
      refine bodyPost_ret (v := .tuple #[.slice none 0 0, .int .i64 410]) (by simp [results, Try.results29, go_sem, *]) rfl (BytesErr.mk (l := []) (by simp [readD, hasD]; omega) (Sl.nil _ _ _ _) hE)
    · by_cases h1 : (d.sectors.length : Int) ≤ i
      · go_wp2_with fail
        refine bodyPost_ret (v := .tuple #[.slice none 0 0, .int .i64 410]) (by simp [results, Try.results29, go_sem, *]) rfl (BytesErr.mk (l := []) (by simp [readD, hasD]; omega) (Sl.nil _ _ _ _) hE)
      · obtain ⟨m, rfl⟩ := Int.eq_ofNat_of_zero_le (by omega : 0 ≤ i)
        have hml : m < d.sectors.length := by omega
        have hml' : (m : Int) < (d.sectors.length : Int) := by omega
        have hm0 : (0 : Int) ≤ m := by omega
        have hhas : Hid (hasD d m = true) := Lib.hid (by simp [hasD]; omega)
        obtain ⟨b, o, vd, rfl, hb0, x0, hv⟩ := J1.out.elem hml
        obtain ⟨a3, c3, rfl, hc3, hm3⟩ := hv.open
        have HV := Lib.hid hv; clear hv
        go_wp2_with fail
        go_loop [6, 7] (fun q j => ∃ k : Nat, k ≤ d.pending.length ∧ j = .int .i64 k ∧ Hid (Bs S w1 q (readTo d m k))) (fun _ j => d.pending.length - (intOf j).toNat)
        case atStart =>
          refine ⟨0, Nat.zero_le _, rfl, ?_⟩
          refine (?_ : Bs S w1 _ _)
          rw [readTo_zero]
          have : d.sectors.getD (m : Int).toNat [] = d.sectors[m] := by simp [hml]
          rw [this]; exact HV.out
        case round =>
          obtain ⟨k, hk, rfl, hq⟩ := hrel
          by_cases hkl : k < d.pending.length
          · obtain ⟨b2, o2, vd2, rfl, hb2, y0, y1, hv2⟩ := J2.out.elem hkl
            have hsu := readTo_succ d m k hkl
            have HSU := Lib.hid hsu; clear hsu
            obtain ⟨a4, c4, rfl, hc4, hm4⟩ := hv2.open
            have HV2 := Lib.hid hv2; clear hv2
            obtain ⟨a5, c5, rfl, hc5, hm5⟩ := hq.out.open
            by_cases he : d.pending[k].at_ = m
            · go_wp2_with fail
              go_round
              case rel => exact ⟨k + 1, by omega, by simp, Lib.hid (by rw [HSU.out, if_pos he]; exact HV2.out)⟩
              case measure => simp [intOf]; omega
            · go_wp2_with fail
              go_round
              case rel => exact ⟨k + 1, by omega, by simp, Lib.hid (by rw [HSU.out, if_neg he]; exact hq.out)⟩
              case measure => simp [intOf]; omega
          · obtain rfl : k = d.pending.length := by omega
            obtain ⟨a5, c5, rfl, hc5, hm5⟩ := hq.out.open
            go_wp2_with fail
            refine bodyPost_ret (v := .tuple #[.slice a5 (readTo d m d.pending.length).length c5, .int .i64 0]) (by simp [results, Try.results29, go_sem, *]) rfl (BytesErr.mk (by unfold readD; rw [if_pos (by rw [HR.out, hhas.out]; rfl), ← readTo_all]) hq.out hE)
  · have HR := Lib.hid hr; clear hr
    cases hok : okD d
    · rw [hok] at e0
      simp only [Bool.not_false] at e0
      go_wp2_with fail
      refine bodyPost_ret (v := .tuple #[.slice none 0 0, .int .i64 410]) (by simp [results, Try.results29, go_sem, *]) rfl (BytesErr.mk (l := []) (by have := HR.out; simp at this; simp [readD, this]) (Sl.nil _ _ _ _) hE)
    · rw [hok] at e0
      simp only [Bool.not_true] at e0
      have hst : d.stopped = true := by
        have := HR.out; unfold runsD at this; rw [hok] at this; simpa using this
      rw [hst] at c03
      clear hst
      go_wp2_with fail
      refine bodyPost_ret (v := .tuple #[.slice none 0 0, .int .i64 410]) (by simp [results, Try.results29, go_sem, *]) rfl (BytesErr.mk (l := []) (by have := HR.out; simp at this; simp [readD, this]) (Sl.nil _ _ _ _) hE)
end Go.Proofs.Ytpciankfpagnhaa
