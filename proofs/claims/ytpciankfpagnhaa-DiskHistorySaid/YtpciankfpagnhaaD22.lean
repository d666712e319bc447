/- What Write of the reference of layer 41 does. -/
import Derived.Test.YtpciankfpagnhaaD20
import Derived.Test.YtpciankfpagnhaaD21
namespace Go.Proofs.Ytpciankfpagnhaa
open Go.RowKit

/-- One byte, written out. -/
theorem byte_lit1 {S : Nat → Prop} {w : World} (x : UInt8) (hS : ∀ k, S k → k < w.heap.size) : Bs S (w.alloc (.cells #[.int .u8 (x.toNat : Int)] 5)) (.slice (some ⟨w.heap.size, 0, none⟩) 1 1) [x] :=
  Bs.whole (t := 5) (heap_alloc_new w _) (fun h => absurd (hS _ h) (Nat.lt_irrefl _)) rfl (Nat.le_refl _) (by decide)
def lenOf : Value → Nat
  | .slice _ n _ => n
  | _ => 0

set_option maxHeartbeats 2000000 in
set_option maxRecDepth 100000 in
theorem refWrite_ok {S : Nat → Prop} (w : World) (v : Value) (d : Dk) (i : Int) (vb : Value) (b : List UInt8) (h : Disk S w v d) (hb : Bs S w vb b) (hS : ∀ k, S k → k < w.heap.size) :
    Calls Try.prog 27 #[v, .int .i64 i, vb] w (DiskErr S w (writeD d i b)) := by
  obtain ⟨a0, c0, a2, c2, rfl, hc, hm, hc2, hm2, h1, h2⟩ := h.open
  obtain ⟨a3, c3, rfl, hc3, hm3⟩ := hb.open
  have H := Lib.hid h; clear h
  have H1 := Lib.hid h1; clear h1
  have H2 := Lib.hid h2; clear h2
  have HB := Lib.hid hb; clear hb
  have HS := Lib.hid hS; clear hS
  go_enter Try.func27, Try.ntmps27
  go_wp2_with fail
  refine (refCheck_ok _ _ d (H.out.keep (((Ext.refl _).alloc _).alloc _))).mono ?_
  rintro e w1 ⟨rfl, hx⟩
  have hE := (((Ext.refl w).alloc _).alloc _).trans hx
  have hs := hx.size
  simp only [World.size_alloc] at hs
  have B0 := Lib.hid (((Box.new w _ _).past _).keep hx)
  have B1 := Lib.hid ((Box.at (b := w.heap.size + 1) (by simp)).keep hx)
  obtain ⟨c00, c01, c02, c03, f00, f01, f02, f03⟩ := B0.out.four
  obtain ⟨c10, c11, c12, c13, f10, f11, f12, f13⟩ := B1.out.four
  clear hx
  have hlt : w.heap.size < w1.heap.size := by omega
  have hlt1 : w.heap.size + 1 < w1.heap.size := by omega
  clear hs
  have e0 := chk_bne d
  by_cases hr : runsD d = true
  · have hok : okD d = true ∧ d.stopped = false := by unfold runsD at hr; simp at hr; exact hr
    rw [hok.1] at e0
    rw [hok.2] at c03
    simp only [Bool.not_true] at e0
    have HK := Lib.hid hok; clear hok
    have HR := Lib.hid hr; clear hr
    by_cases h0 : i < 0
    · go_wp2_with fail
      refine bodyPost_ret (v := .tuple #[.agg #[.slice none 0 0, .slice none 0 0, .int .i64 0, .bool false], .int .i64 410]) (by simp [results, Try.results27, go_sem, *]) rfl (DiskErr.mk (by simp [writeD, hasD]; omega) (zeroD_disk _ _) ?_)
      repeat (first | exact hE | refine Ext.setCell ?_ (by simp) _)
    by_cases h1 : (d.sectors.length : Int) ≤ i
    · go_wp2_with fail
      refine bodyPost_ret (v := .tuple #[.agg #[.slice none 0 0, .slice none 0 0, .int .i64 0, .bool false], .int .i64 410]) (by simp [results, Try.results27, go_sem, *]) rfl (DiskErr.mk (by simp [writeD, hasD]; omega) (zeroD_disk _ _) ?_)
      repeat (first | exact hE | refine Ext.setCell ?_ (by simp) _)
    have hh : Hid (hasD d i = true) := Lib.hid (by simp [hasD]; omega)
    by_cases hl : 128 < b.length
    · have hl' : (128 : Int) < (b.length : Int) := by omega
      go_wp2_with fail
      refine bodyPost_ret (v := .tuple #[.agg #[.slice none 0 0, .slice none 0 0, .int .i64 0, .bool false], .int .i64 1]) (by simp [results, Try.results27, go_sem, *]) rfl (DiskErr.mk (by simp [writeD, HR.out, hh.out, hl]) (zeroD_disk _ _) ?_)
      repeat (first | exact hE | refine Ext.setCell ?_ (by simp) _)
    have hl' : (b.length : Int) ≤ 128 := by omega
    have hl0 : b.length ≤ 128 := by omega
    by_cases hp : d.pending.length = 4096
    · have Hp := Lib.hid hp
      have hp' : ((d.pending.length : Int) == 4096) = true := by simp [hp]
      clear hp
      go_wp2_with fail
      refine bodyPost_ret (v := .tuple #[.agg #[.slice none 0 0, .slice none 0 0, .int .i64 0, .bool false], .int .i64 2]) (by simp [results, Try.results27, go_sem, *]) rfl (DiskErr.mk (by simp [writeD, HR.out, hh.out, hl, Hp.out]) (zeroD_disk _ _) ?_)
      repeat (first | exact hE | refine Ext.setCell ?_ (by simp) _)
    have hp' : ((d.pending.length : Int) == 4096) = false := by simp; omega
    have Hp := Lib.hid hp; clear hp
    have hN : ¬ Bx S w.heap.size (w.heap.size + 2) w1.heap.size := fun h => by
      rcases h with h | h
      · have := HS.out _ h; omega
      · omega
    have HSS : Hid (∀ W, Ext w1 W → ∀ k, Bx S w.heap.size (w.heap.size + 2) k → k < W.heap.size) := Lib.hid fun W hX => Bx.lt HS.out (Nat.le_trans (Nat.le_of_lt hlt) hX.size) (Nat.le_trans (by omega) hX.size)
    go_wp2_with (at_builtin; refine wpList_append_osl atB etByte rfl _ _ rfl w.heap.size _ _ [] b rfl rfl (OSl.lit0 _ _ _ _ (Bx S w.heap.size (w.heap.size + 2)) w1 (Nat.le_of_lt hlt) hN) ((((HB.out.more etByte Bx.more).keepM etByte (hE.mem _)).more etByte (S' := Wo (Bx S w.heap.size (w.heap.size + 2)) (.slice (some ⟨w1.heap.size, 0, none⟩) 0 0)) (fun k hk => hk.imp id (fun h => by simp [Value.ownBlock] at h; omega))).keepM etByte (((Ext.refl w1).alloc _).mem _)) (HSS.out _ ((Ext.refl w1).alloc _)) ?_ ?_ ?_ ?_)
    case refine_1 => simp; omega
    case refine_2 => simp; omega
    case refine_3 => simp; omega
    intro v2 w2 hv2 hg2
    obtain ⟨a4, c4, rfl, hc4, hm4⟩ := (hv2.sl etByte).open
    have hE2 : Ext w w2 := (hE.alloc _).grown hg2 (fun k hk => by simp [Value.ownBlock] at hk; omega)
    have C0 := Lib.hid ((B0.out.past _).grown hg2 (by simp [Value.ownBlock]; omega)); clear B0
    have C1 := Lib.hid ((B1.out.past _).grown hg2 (by simp [Value.ownBlock]; omega)); clear B1
    clear c00 c01 c02 c03 f00 f01 f02 f03 c10 c11 c12 c13 f10 f11 f12 f13 hg2 hN HSS
    have HV2 := Lib.hid hv2; clear hv2
    clear hlt hlt1 hE e0
    generalize w1.heap.size = n1
    clear w1
    go_wp2_with fail
    go_loopw [8] (fun q wr => ∃ (n : Nat) (a : Option Addr) (c : Nat), b.length ≤ n ∧ n ≤ 128 ∧ q = .slice a n c ∧ n ≤ c ∧ c ≤ 9223372036854775807 ∧ Hid (OSl w.heap.size 5 1 eByte (Bx S w.heap.size (w.heap.size + 2)) wr (.slice a n c) (b ++ List.replicate (n - b.length) 0)) ∧
      Hid (Box wr w.heap.size [.slice a0 d.sectors.length c0, .slice a2 d.pending.length c2, .int .i64 d.left, .bool d.stopped]) ∧ Hid (Box wr (w.heap.size + 1) [.slice none 0 0, .slice none 0 0, .int .i64 0, .bool false]) ∧ Ext w wr) (fun q _ => 128 - lenOf q)
    case atStart => exact ⟨b.length, a4, c4, Nat.le_refl _, hl0, rfl, hc4, hm4, Lib.hid (by simpa using HV2.out), C0, C1, hE2⟩
    case round =>
      obtain ⟨n, a5, c5, hk, hk2, rfl, hc5, hm5, HO, B0, B1, hx⟩ := hrel
      clear C0 C1 HV2 hE2 hc4 hm4 hl hl'
      have hlt : w.heap.size < wr.heap.size := B0.out.lt
      have hlt1 : w.heap.size + 1 < wr.heap.size := B1.out.lt
      have HSS : Hid (∀ W, Ext wr W → ∀ k, Bx S w.heap.size (w.heap.size + 2) k → k < W.heap.size) := Lib.hid fun W hX => Bx.lt HS.out (Nat.le_trans (Nat.le_of_lt hlt) hX.size) (Nat.le_trans (by omega) hX.size)
      have hbo : ∀ W, Ext wr W → ∀ g, Wo (Bx S w.heap.size (w.heap.size + 2)) (.slice a5 n c5) g → g < W.heap.size := fun W hX g hg => by
        rcases hg with hg | hg
        · exact HSS.out W hX g hg
        · exact Nat.lt_of_lt_of_le (HO.out.block g hg).2 hX.size
      have HBO := Lib.hid hbo; clear hbo
      by_cases hn : n < 128
      · have hn' : (n : Int) < 128 := by omega
        go_wp2_with (at_builtin; refine wpList_append_osl atB etByte rfl _ _ rfl w.heap.size _ _ (b ++ List.replicate (n - b.length) 0) [0] rfl rfl (HO.out.keep etByte ((Ext.refl wr).alloc _)) (byte_lit1 0 (HBO.out _ (Ext.refl wr))) (HSS.out _ ((Ext.refl wr).alloc _)) ?_ ?_ ?_ ?_)
        case refine_1 => simp; omega
        case refine_2 => simp; omega
        case refine_3 => simp; omega
        intro v3 w3 hv3 hg3
        obtain ⟨a6, c6, rfl, hc6, hm6⟩ := (hv3.sl etByte).open
        have hb0 : (Value.slice a5 n c5).ownBlock ≠ some w.heap.size := fun h => HO.out.notS _ h (.inr ⟨by omega, by omega⟩)
        have hb1 : (Value.slice a5 n c5).ownBlock ≠ some (w.heap.size + 1) := fun h => HO.out.notS _ h (.inr ⟨by omega, by omega⟩)
        have hE3 : Ext w w3 := (hx.alloc _).grown hg3 (fun k hk => (HO.out.block k hk).1)
        have C0 := Lib.hid ((B0.out.past _).grown hg3 hb0)
        have C1 := Lib.hid ((B1.out.past _).grown hg3 hb1)
        have hle : (b ++ (List.replicate (n - b.length) (0 : UInt8) ++ [0])) = b ++ List.replicate (n + 1 - b.length) 0 := by
          rw [show n + 1 - b.length = (n - b.length) + 1 from by omega, List.replicate_succ']
        rw [hle] at hv3 hc6 ⊢
        have hln : (b ++ List.replicate (n + 1 - b.length) (0 : UInt8)).length = n + 1 := by simp; omega
        rw [hln] at hv3 hc6 ⊢
        clear hg3 hle hln hb0 hb1
        have HV3 := Lib.hid hv3; clear hv3
        go_wp2_with fail
        go_roundw
        case rel => exact ⟨n + 1, a6, c6, by omega, by omega, rfl, hc6, hm6, HV3, C0, C1, hE3⟩
        case measure => simp only [lenOf]; omega
      · obtain rfl : n = 128 := by omega
        obtain ⟨c00, c01, c02, c03, f00, f01, f02, f03⟩ := B0.out.four
        obtain ⟨c10, c11, c12, c13, f10, f11, f12, f13⟩ := B1.out.four
        have hN : ¬ Bx S w.heap.size (w.heap.size + 2) wr.heap.size := fun h => Nat.lt_irrefl _ (HSS.out _ (Ext.refl wr) _ h)
        have hpl : d.pending.length ≤ 4096 := by have := (okD_iff d).1 HK.out.1; omega
        have HDB := Lib.hid (HO.out.sl etByte); clear HO HBO
        go_wp2_with (at_builtin; refine wpList_append_osl atWr etWr rfl _ _ rfl wr.heap.size _ _ [] d.pending rfl rfl (OSl.lit0 _ _ _ _ (Bx S w.heap.size (w.heap.size + 2)) wr (Nat.le_refl _) hN) ((((H2.out.more etWr Bx.more).keepM etWr (hx.mem _)).more etWr (S' := Wo (Bx S w.heap.size (w.heap.size + 2)) (.slice (some ⟨wr.heap.size, 0, none⟩) 0 0)) (fun k hk => hk.imp id (fun h => by simp [Value.ownBlock] at h; omega))).keepM etWr (((Ext.refl wr).alloc _).mem _)) (HSS.out _ ((Ext.refl wr).alloc _)) ?_ ?_ ?_ ?_)
        case refine_1 => simp; omega
        case refine_2 => simp; omega
        case refine_3 => simp
        intro v4 w4 hv4 hg4
        obtain ⟨a7, c7, rfl, hc7, hm7⟩ := (hv4.sl etWr).open
        have hX4 : Ext wr w4 := ((Ext.refl wr).alloc _).grown hg4 (fun k hk => by simp [Value.ownBlock] at hk; omega)
        have hE4 := hx.trans hX4
        have C0 := Lib.hid (B0.out.keep hX4); clear B0
        have C1 := Lib.hid (B1.out.keep hX4); clear B1
        clear hg4 c00 c01 c02 c03 f00 f01 f02 f03 c10 c11 c12 c13 f10 f11 f12 f13
        have hlt4 : w.heap.size < w4.heap.size := C0.out.lt
        have hlt5 : w.heap.size + 1 < w4.heap.size := C1.out.lt
        have hbo : ∀ W, Ext w4 W → ∀ g, Wo (Bx S w.heap.size (w.heap.size + 2)) (.slice a7 d.pending.length c7) g → g < W.heap.size := fun W hX g hg => by
          rcases hg with hg | hg
          · exact HSS.out W (hX4.trans hX) g hg
          · exact Nat.lt_of_lt_of_le (hv4.block g hg).2 hX.size
        have HBO := Lib.hid hbo; clear hbo
        have hD4 : Bs (Wo (Bx S w.heap.size (w.heap.size + 2)) (.slice a7 d.pending.length c7)) w4 (.slice a5 128 c5) (padS b) := (HDB.out.more etByte (fun k hk => hk.imp id (fun h => (hv4.block k h).1))).keepM etByte (hX4.mem _)
        have HD4 := Lib.hid hD4; clear hD4 HDB
        have HV4 := Lib.hid hv4; clear hv4
        have HBF := Lib.hid (show ∀ g, (Value.slice a7 d.pending.length c7).ownBlock = some g → w.heap.size + 2 ≤ g from fun g hg => by have := (HV4.out.block g hg).1; omega)
        go_wp2_with (at_builtin; refine wpList_append_osl atWr etWr rfl _ _ rfl wr.heap.size _ _ d.pending [⟨i, padS b⟩] rfl rfl (HV4.out.keep etWr ((Ext.refl _).alloc _)) (wr_lit (HBO.out _ (Ext.refl _)) HD4.out) (fun k hk => HSS.out _ (hX4.alloc _) k hk) ?_ ?_ ?_ ?_)
        case refine_1 => simp; omega
        case refine_2 => simp; omega
        case refine_3 => exact (hX4.alloc _).size
        intro v6 w6 hv6 hg6
        have hE6 : Ext w w6 := (hE4.alloc _).grown hg6 (fun k hk => by have := HBF.out k hk; omega)
        have D0 := Lib.hid ((C0.out.past _).grown hg6 (fun h => by have := HBF.out _ h; omega)); clear C0
        have D1 := Lib.hid ((C1.out.past _).grown hg6 (fun h => by have := HBF.out _ h; omega)); clear C1
        clear hg6 HV4 HBO HD4 hlt hlt1 hlt4 hlt5
        have hs1 : w.heap.size + 1 < w6.heap.size := D1.out.lt
        have hs0 : w.heap.size < w6.heap.size := D0.out.lt
        have hw6 := hv6.sl etWr; clear hv6
        obtain ⟨a6, c6, rfl, hc6, hm6⟩ := hw6.open
        have HV6 := Lib.hid hw6; clear hw6
        obtain ⟨c00, c01, c02, c03, f00, f01, f02, f03⟩ := D0.out.four
        obtain ⟨c10, c11, c12, c13, f10, f11, f12, f13⟩ := D1.out.four
        go_wp2_with fail
        refine bodyPost_ret (v := .tuple #[.agg #[.slice a0 d.sectors.length c0, .slice a6 (d.pending ++ [({ at_ := i, data := padS b } : Wr)]).length c6, .int .i64 d.left, .bool d.stopped], .int .i64 0]) (by simp [results, Try.results27, go_sem, *]) rfl (DiskErr.mk (d := { d with pending := d.pending ++ [⟨i, padS b⟩] }) (by simp [writeD, HR.out, hh.out, Hp.out]; omega) (Disk.mk' (H1.out.keep ?_) ((HV6.out.keepM etWr ?_).more etWr Bx.less)) ?_)
        rotate_left
        · repeat (first | exact Mem.refl _ _ | refine Mem.setCell ?_ (.inr (by simp)) _)
        all_goals repeat (first | exact hE6 | refine Ext.setCell ?_ (by simp) _)
  · have HR := Lib.hid hr; clear hr
    cases hok : okD d
    · rw [hok] at e0
      simp only [Bool.not_false] at e0
      go_wp2_with fail
      refine bodyPost_ret (v := .tuple #[.agg #[.slice none 0 0, .slice none 0 0, .int .i64 0, .bool false], .int .i64 410]) (by simp [results, Try.results27, go_sem, *]) rfl (DiskErr.mk (by have := HR.out; simp at this; simp [writeD, this]) (zeroD_disk _ _) ?_)
      repeat (first | exact hE | refine Ext.setCell ?_ (by simp) _)
    · rw [hok] at e0
      simp only [Bool.not_true] at e0
      have hst : d.stopped = true := by
        have := HR.out; unfold runsD at this; rw [hok] at this; simpa using this
      rw [hst] at c03
      clear hst
      go_wp2_with fail
      refine bodyPost_ret (v := .tuple #[.agg #[.slice none 0 0, .slice none 0 0, .int .i64 0, .bool false], .int .i64 410]) (by simp [results, Try.results27, go_sem, *]) rfl (DiskErr.mk (by have := HR.out; simp at this; simp [writeD, this]) (zeroD_disk _ _) ?_)
      repeat (first | exact hE | refine Ext.setCell ?_ (by simp) _)
end Go.Proofs.Ytpciankfpagnhaa
