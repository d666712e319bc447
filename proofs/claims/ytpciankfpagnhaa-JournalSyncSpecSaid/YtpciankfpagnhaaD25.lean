/- What Sync of the reference of layer 41 does. -/
import Derived.Test.YtpciankfpagnhaaD25a
import Derived.Test.YtpciankfpagnhaaD7
import Derived.Test.YtpciankfpagnhaaD19
import Derived.Test.YtpciankfpagnhaaM6
import Derived.Deep.DeepCutAuto
namespace Go.Proofs.Ytpciankfpagnhaa
open Go.RowKit

theorem Pl.less {S : Nat → Prop} {w : World} {G : Nat} : ∀ k, S k → Pl S G k ∨ w.heap.size ≤ k := fun _ h => .inl (.inl h)

set_option maxHeartbeats 4000000 in
set_option maxRecDepth 100000 in
theorem refSync_minus {S : Nat → Prop} (w : World) (v : Value) (ss : List (List UInt8)) (ps : List Wr) (le : Int) (h : Disk S w v ⟨ss, ps, le, false⟩) (hS : ∀ k, S k → k < w.heap.size) (hr : runsD ⟨ss, ps, le, false⟩ = true) (hl : le < 0) :
    Calls Try.prog 31 #[v] w (DiskErr S w (⟨perfL ss ps, [], le, false⟩, 0)) := by
  obtain ⟨a, c, a2, c2, rfl, hc, hm, hc2, hm2, h1, h2⟩ := h.open
  simp only at hc hm hc2 hm2 h1 h2
  have H := Lib.hid h; clear h
  have H1 := Lib.hid h1; clear h1
  have H2 := Lib.hid h2; clear h2
  have HS := Lib.hid hS; clear hS
  have hl2 : ¬ 0 ≤ le := by omega
  go_enter Try.func31, Try.ntmps31
  go_wp2_with fail
  refine (refCheck_ok _ _ ⟨ss, ps, le, false⟩ (H.out.keep (((Ext.refl _).alloc _).alloc _))).mono ?_
  rintro e w1 ⟨rfl, hx⟩
  have hE := (((Ext.refl w).alloc _).alloc _).trans hx
  have B0 := Lib.hid (((Box.new w _ _).past _).keep hx)
  have B1 := Lib.hid ((Box.at (b := w.heap.size + 1) (by simp)).keep hx)
  clear hx
  have hs0 : w.heap.size < w1.heap.size := B0.out.lt
  have hs1 : w.heap.size + 1 < w1.heap.size := B1.out.lt
  have hok : okD ⟨ss, ps, le, false⟩ = true := ((runsD_iff _).1 hr).1
  have hbd := okD_bounds hok
  simp only at hbd
  have e0 := chk_yes hok
  rw [e0]
  clear e0
  have hA : ∀ x ∈ ps, (0 ≤ x.at_ ∧ x.at_ < ss.length) ∧ x.data.length = 128 := fun x hx => by have := ok_at hok x hx; exact ⟨⟨this.1, this.2.1⟩, this.2.2⟩
  have HA := Lib.hid hA; clear hA
  have HL := Lib.hid (ok_sec hok)
  have hsec : ss.length ≤ 4096 := hbd.2.1
  have hpen : ps.length ≤ 4096 := hbd.2.2.1
  have hle : le ≤ 65536 := hbd.2.2.2.2
  have HK := Lib.hid hok; clear hok hbd
  have HR := Lib.hid hr; clear hr
  obtain ⟨c00, c01, c02, c03, f00, f01, f02, f03⟩ := B0.out.four
  go_upto_region 7 with fail
  have HSS : Hid (∀ W, Ext w1 W → ∀ k, Bx S w.heap.size (w.heap.size + 2) k → k < W.heap.size) := Lib.hid fun W hX => Bx.lt HS.out (Nat.le_trans (Nat.le_of_lt hs0) hX.size) (Nat.le_trans (by omega) hX.size)
  have HM := Lib.hid ((H1.out.more etBs Bx.more).keepM etBs (hE.mem (Bx S w.heap.size (w.heap.size + 2))))
  go_cut [6] (fun p wx => ∃ (g6 : Nat) (a9 : Option Addr) (c9 : Nat), p = .pointer (some ⟨g6, 0, none⟩) ∧ ss.length ≤ c9 ∧ c9 ≤ 9223372036854775807 ∧ w1.heap.size ≤ g6 ∧ Hid (Box wx g6 [.slice a9 ss.length c9, .slice none 0 0, .int .i64 le, .bool false]) ∧
     Hid (OSl w1.heap.size 35 1 eBs (Pl (Bx S w.heap.size (w.heap.size + 2)) g6) wx (.slice a9 ss.length c9) ss) ∧ Ext w1 wx)
  case first =>
    refine reg31_7 (S := Bx S w.heap.size (w.heap.size + 2)) _ _ _ _ _ _ _ _ _ _ _ _ _ _ _ _ _ _ _ _ _ _ _ _ _ _ _ _ _ _ _ _ _ _ _ _ _ _ _ _ _ _ _ _ _ _ _ _ _ _ _ _ _ _ _ _ _ _ _ _ _ _ _ _ _ _ _ _ _ _ _ _ _ _ _ _ _ _ _ _ _ _ _ _ _ _ _ _ _ _ _ _ _ _ w1 w.heap.size a c ss _ _ le B0.out HM.out (HSS.out w1 (Ext.refl w1)) hsec ?_
    intro u32 u33 u34 u35 u36 u37 u38 g6 a9 c9 wx h1 h2 h3 h4 h5 h6
    dsimp only
    go_wp2_with fail
    go_meet
    exact ⟨g6, a9, c9, rfl, h1, h2, h3, Lib.hid h4, Lib.hid h5, h6⟩
  case rest =>
    obtain ⟨g6, a9, c9, rfl, hc9, hm9, hg6, P6, PO, hx2⟩ := hcut
    generalize wc = w2 at *
    clear c00 c01 c02 c03 f00 f01 f02 f03 HM
    go_upto_region 8 with fail
    go_wp2_with fail
    go_loopw [7] (fun i wr => ∃ k : Nat, k ≤ ps.length ∧ i = .int .i64 k ∧ Hid (OSl w1.heap.size 35 1 eBs (Pl (Bx S w.heap.size (w.heap.size + 2)) g6) wr (.slice a9 ss.length c9) (perfL ss (ps.take k))) ∧ Hid (Box wr g6 [.slice a9 ss.length c9, .slice none 0 0, .int .i64 le, .bool false]) ∧ Ext w1 wr) (fun i _ => ps.length - (intOf i).toNat)
    case atStart => exact ⟨0, Nat.zero_le _, rfl, PO, P6, hx2⟩
    case round =>
      clear PO P6 hx2
      obtain ⟨k, hk, rfl, PO, P6, hxr⟩ := hrel
      by_cases hlt : k < ps.length
      · have hltp : k < ps.length := by omega
        obtain ⟨b, o, vd, rfl, hb, x0, x1, hv⟩ := H2.out.elem hltp
        obtain ⟨a3, c3, rfl, hc3, hm3⟩ := hv.open
        have hts := perfL_snoc ss (ps.take k) ps[k]
        rw [← take_snoc' ps k hltp] at hts
        have hat := HA.out ps[k] (List.getElem_mem hltp)
        have hpl := perfL_length (ps.take k) ss
        have hEr := hE.trans hxr
        have y0 := hEr.cell x0
        have y1 := hEr.cell x1
        generalize ps[k] = x at *
        obtain ⟨at_, data⟩ := x
        simp only at *
        obtain ⟨n, rfl⟩ := Int.eq_ofNat_of_zero_le hat.1.1
        have hn : n < (perfL ss (ps.take k)).length := by rw [hpl]; omega
        obtain ⟨g, vd0, ea, hgb, hgl, hgS, -, -⟩ := PO.out.elemB hn
        cases ea
        have hD : Bs (Wo (Pl (Bx S w.heap.size (w.heap.size + 2)) g6) (.slice (some ⟨g, 0, none⟩) ss.length c9)) wr (.slice a3 data.length c3) data :=
          (hv.more etByte (fun q hq => by
            rcases hq with (hq | hq) | hq
            · exact Bx.more q hq
            · exact .inr (by omega)
            · simp [Value.ownBlock] at hq; exact .inr (by omega))).keepM etByte (hEr.mem _)
        have HD := Lib.hid hD; clear hD hv
        have HT := Lib.hid hts; clear hts
        have HP := Lib.hid hpl; clear hpl
        have HN := Lib.hid hn; clear hn
        obtain ⟨d00, d01, d02, d03, -, -, -, -⟩ := (B0.out.keep hxr).four
        obtain ⟨e00, e01, e02, e03, -, -, -, -⟩ := P6.out.four
        have hlt' : (k : Int) < (ps.length : Int) := by omega
        clear x0 x1
        go_upto_region 11 with fail
        have EL := HP.out
        refine reg31_11 (S := Pl (Bx S w.heap.size (w.heap.size + 2)) g6) _ _ _ _ _ _ _ _ _ _ _ _ _ _ _ _ _ _ _ _ _ _ _ _ _ _ _ _ _ _ _ _ _ _ _ _ _ _ _ _ _ _ _ _ _ _ _ _ _ _ _ _ _ _ _ _ _ _ _ _ _ _ _ _ _ _ _ _ _ _ _ _ _ _ _ _ _ _ _ _ _ _ _ _ _ _ _ _ _ _ _ _ wr w1.heap.size g w.heap.size g6 n c9 (perfL ss (ps.take k)) a3 data.length c3 b o ps.length c2 k data (by rw [EL]; exact e00) d01 y0 y1 (by rw [EL]; exact PO.out) (by rw [EL]; exact HD.out) hltp HN.out ?_
        rw [EL]
        clear EL
        intro u44 u45 u46 u47 u48 u49 u50 u51 u52 u53 u54 u55 u56 u57 u58 w9 w10 hx9 ho9 hO9
        dsimp only
        have HO9 := Lib.hid hO9; clear hO9
        clear d00 d01 d02 d03 e00 e01 e02 e03 y0 y1
        have P10 := Lib.hid (ho9.box (P6.out.keep hx9) (fun hq => hgS (.inr hq.symm)))
        have hx10 := ho9.ext (hxr.trans hx9) hgb
        clear hx9 ho9 PO P6 hxr HD
        go_wp2_with fail
        go_roundw
        case rel => exact ⟨k + 1, by omega, by go_num, Lib.hid (by rw [HT.out]; exact HO9.out), P10, hx10⟩
        case measure => simp [intOf]; omega
      · obtain rfl : ps.length = k := by omega
        have hlt' : ¬ (ps.length : Int) < (ps.length : Int) := by omega
        rw [List.take_length] at PO
        obtain ⟨e00, e01, e02, e03, f00, f01, f02, f03⟩ := P6.out.four
        obtain ⟨d00, d01, d02, d03, f10, f11, f12, f13⟩ := (B1.out.keep hxr).four
        have hz6 : g6 < wr.heap.size := P6.out.lt
        have hz1 : w.heap.size + 1 < wr.heap.size := (B1.out.keep hxr).lt
        have hne : ¬ g6 = w.heap.size + 1 := by omega
        have hne2 : ¬ w.heap.size + 1 = g6 := by omega
        go_wp2_with fail
        refine bodyPost_ret (v := .tuple #[.agg #[.slice a9 ss.length c9, .slice none 0 0, .int .i64 (le), .bool false], .int .i64 0]) (by simp [results, Try.results31, go_sem, *]) rfl (DiskErr.mk rfl (Disk.mk' ((((PO.out.sl etBs).keepM etBs ?_).more etBs Pl.less).more etBs Bx.less) (Sl.nil _ _ _ _)) ?_)
        · repeat (first | exact Mem.refl _ _ | refine Mem.setCell ?_ (.inr rfl) _ | refine Mem.setCell ?_ (.inl (.inr (by simp))) _)
        · repeat (first | exact hE.trans hxr | refine Ext.setCell ?_ (by first | (simp; done) | omega | (simp; omega)) _)


set_option maxHeartbeats 4000000 in
set_option maxRecDepth 100000 in
theorem refSync_plus {S : Nat → Prop} (w : World) (v : Value) (ss : List (List UInt8)) (ps : List Wr) (le : Int) (h : Disk S w v ⟨ss, ps, le, false⟩) (hS : ∀ k, S k → k < w.heap.size) (hr : runsD ⟨ss, ps, le, false⟩ = true) (hl : (ps.length : Int) ≤ le) :
    Calls Try.prog 31 #[v] w (DiskErr S w (⟨perfL ss ps, [], le - ps.length, false⟩, 0)) := by
  obtain ⟨a, c, a2, c2, rfl, hc, hm, hc2, hm2, h1, h2⟩ := h.open
  simp only at hc hm hc2 hm2 h1 h2
  have H := Lib.hid h; clear h
  have H1 := Lib.hid h1; clear h1
  have H2 := Lib.hid h2; clear h2
  have HS := Lib.hid hS; clear hS
  have hl0 : 0 ≤ le := by omega
  have hl2 : ¬ le < (ps.length : Int) := by omega
  go_enter Try.func31, Try.ntmps31
  go_wp2_with fail
  refine (refCheck_ok _ _ ⟨ss, ps, le, false⟩ (H.out.keep (((Ext.refl _).alloc _).alloc _))).mono ?_
  rintro e w1 ⟨rfl, hx⟩
  have hE := (((Ext.refl w).alloc _).alloc _).trans hx
  have B0 := Lib.hid (((Box.new w _ _).past _).keep hx)
  have B1 := Lib.hid ((Box.at (b := w.heap.size + 1) (by simp)).keep hx)
  clear hx
  have hs0 : w.heap.size < w1.heap.size := B0.out.lt
  have hs1 : w.heap.size + 1 < w1.heap.size := B1.out.lt
  have hok : okD ⟨ss, ps, le, false⟩ = true := ((runsD_iff _).1 hr).1
  have hbd := okD_bounds hok
  simp only at hbd
  have e0 := chk_yes hok
  rw [e0]
  clear e0
  have hA : ∀ x ∈ ps, (0 ≤ x.at_ ∧ x.at_ < ss.length) ∧ x.data.length = 128 := fun x hx => by have := ok_at hok x hx; exact ⟨⟨this.1, this.2.1⟩, this.2.2⟩
  have HA := Lib.hid hA; clear hA
  have HL := Lib.hid (ok_sec hok)
  have hsec : ss.length ≤ 4096 := hbd.2.1
  have hpen : ps.length ≤ 4096 := hbd.2.2.1
  have hle : le ≤ 65536 := hbd.2.2.2.2
  have HK := Lib.hid hok; clear hok hbd
  have HR := Lib.hid hr; clear hr
  obtain ⟨c00, c01, c02, c03, f00, f01, f02, f03⟩ := B0.out.four
  go_upto_region 7 with fail
  have HSS : Hid (∀ W, Ext w1 W → ∀ k, Bx S w.heap.size (w.heap.size + 2) k → k < W.heap.size) := Lib.hid fun W hX => Bx.lt HS.out (Nat.le_trans (Nat.le_of_lt hs0) hX.size) (Nat.le_trans (by omega) hX.size)
  have HM := Lib.hid ((H1.out.more etBs Bx.more).keepM etBs (hE.mem (Bx S w.heap.size (w.heap.size + 2))))
  go_cut [6] (fun p wx => ∃ (g6 : Nat) (a9 : Option Addr) (c9 : Nat), p = .pointer (some ⟨g6, 0, none⟩) ∧ ss.length ≤ c9 ∧ c9 ≤ 9223372036854775807 ∧ w1.heap.size ≤ g6 ∧ Hid (Box wx g6 [.slice a9 ss.length c9, .slice none 0 0, .int .i64 le, .bool false]) ∧
     Hid (OSl w1.heap.size 35 1 eBs (Pl (Bx S w.heap.size (w.heap.size + 2)) g6) wx (.slice a9 ss.length c9) ss) ∧ Ext w1 wx)
  case first =>
    refine reg31_7 (S := Bx S w.heap.size (w.heap.size + 2)) _ _ _ _ _ _ _ _ _ _ _ _ _ _ _ _ _ _ _ _ _ _ _ _ _ _ _ _ _ _ _ _ _ _ _ _ _ _ _ _ _ _ _ _ _ _ _ _ _ _ _ _ _ _ _ _ _ _ _ _ _ _ _ _ _ _ _ _ _ _ _ _ _ _ _ _ _ _ _ _ _ _ _ _ _ _ _ _ _ _ _ _ _ _ w1 w.heap.size a c ss _ _ le B0.out HM.out (HSS.out w1 (Ext.refl w1)) hsec ?_
    intro u32 u33 u34 u35 u36 u37 u38 g6 a9 c9 wx h1 h2 h3 h4 h5 h6
    dsimp only
    go_wp2_with fail
    go_meet
    exact ⟨g6, a9, c9, rfl, h1, h2, h3, Lib.hid h4, Lib.hid h5, h6⟩
  case rest =>
    obtain ⟨g6, a9, c9, rfl, hc9, hm9, hg6, P6, PO, hx2⟩ := hcut
    generalize wc = w2 at *
    clear c00 c01 c02 c03 f00 f01 f02 f03 HM
    go_upto_region 8 with fail
    go_wp2_with fail
    go_loopw [7] (fun i wr => ∃ k : Nat, k ≤ ps.length ∧ i = .int .i64 k ∧ Hid (OSl w1.heap.size 35 1 eBs (Pl (Bx S w.heap.size (w.heap.size + 2)) g6) wr (.slice a9 ss.length c9) (perfL ss (ps.take k))) ∧ Hid (Box wr g6 [.slice a9 ss.length c9, .slice none 0 0, .int .i64 le, .bool false]) ∧ Ext w1 wr) (fun i _ => ps.length - (intOf i).toNat)
    case atStart => exact ⟨0, Nat.zero_le _, rfl, PO, P6, hx2⟩
    case round =>
      clear PO P6 hx2
      obtain ⟨k, hk, rfl, PO, P6, hxr⟩ := hrel
      by_cases hlt : k < ps.length
      · have hltp : k < ps.length := by omega
        obtain ⟨b, o, vd, rfl, hb, x0, x1, hv⟩ := H2.out.elem hltp
        obtain ⟨a3, c3, rfl, hc3, hm3⟩ := hv.open
        have hts := perfL_snoc ss (ps.take k) ps[k]
        rw [← take_snoc' ps k hltp] at hts
        have hat := HA.out ps[k] (List.getElem_mem hltp)
        have hpl := perfL_length (ps.take k) ss
        have hEr := hE.trans hxr
        have y0 := hEr.cell x0
        have y1 := hEr.cell x1
        generalize ps[k] = x at *
        obtain ⟨at_, data⟩ := x
        simp only at *
        obtain ⟨n, rfl⟩ := Int.eq_ofNat_of_zero_le hat.1.1
        have hn : n < (perfL ss (ps.take k)).length := by rw [hpl]; omega
        obtain ⟨g, vd0, ea, hgb, hgl, hgS, -, -⟩ := PO.out.elemB hn
        cases ea
        have hD : Bs (Wo (Pl (Bx S w.heap.size (w.heap.size + 2)) g6) (.slice (some ⟨g, 0, none⟩) ss.length c9)) wr (.slice a3 data.length c3) data :=
          (hv.more etByte (fun q hq => by
            rcases hq with (hq | hq) | hq
            · exact Bx.more q hq
            · exact .inr (by omega)
            · simp [Value.ownBlock] at hq; exact .inr (by omega))).keepM etByte (hEr.mem _)
        have HD := Lib.hid hD; clear hD hv
        have HT := Lib.hid hts; clear hts
        have HP := Lib.hid hpl; clear hpl
        have HN := Lib.hid hn; clear hn
        obtain ⟨d00, d01, d02, d03, -, -, -, -⟩ := (B0.out.keep hxr).four
        obtain ⟨e00, e01, e02, e03, -, -, -, -⟩ := P6.out.four
        have hlt' : (k : Int) < (ps.length : Int) := by omega
        clear x0 x1
        go_upto_region 11 with fail
        have EL := HP.out
        refine reg31_11 (S := Pl (Bx S w.heap.size (w.heap.size + 2)) g6) _ _ _ _ _ _ _ _ _ _ _ _ _ _ _ _ _ _ _ _ _ _ _ _ _ _ _ _ _ _ _ _ _ _ _ _ _ _ _ _ _ _ _ _ _ _ _ _ _ _ _ _ _ _ _ _ _ _ _ _ _ _ _ _ _ _ _ _ _ _ _ _ _ _ _ _ _ _ _ _ _ _ _ _ _ _ _ _ _ _ _ _ wr w1.heap.size g w.heap.size g6 n c9 (perfL ss (ps.take k)) a3 data.length c3 b o ps.length c2 k data (by rw [EL]; exact e00) d01 y0 y1 (by rw [EL]; exact PO.out) (by rw [EL]; exact HD.out) hltp HN.out ?_
        rw [EL]
        clear EL
        intro u44 u45 u46 u47 u48 u49 u50 u51 u52 u53 u54 u55 u56 u57 u58 w9 w10 hx9 ho9 hO9
        dsimp only
        have HO9 := Lib.hid hO9; clear hO9
        clear d00 d01 d02 d03 e00 e01 e02 e03 y0 y1
        have P10 := Lib.hid (ho9.box (P6.out.keep hx9) (fun hq => hgS (.inr hq.symm)))
        have hx10 := ho9.ext (hxr.trans hx9) hgb
        clear hx9 ho9 PO P6 hxr HD
        go_wp2_with fail
        go_roundw
        case rel => exact ⟨k + 1, by omega, by go_num, Lib.hid (by rw [HT.out]; exact HO9.out), P10, hx10⟩
        case measure => simp [intOf]; omega
      · obtain rfl : ps.length = k := by omega
        have hlt' : ¬ (ps.length : Int) < (ps.length : Int) := by omega
        rw [List.take_length] at PO
        obtain ⟨e00, e01, e02, e03, f00, f01, f02, f03⟩ := P6.out.four
        obtain ⟨d00, d01, d02, d03, f10, f11, f12, f13⟩ := (B1.out.keep hxr).four
        have hz6 : g6 < wr.heap.size := P6.out.lt
        have hz1 : w.heap.size + 1 < wr.heap.size := (B1.out.keep hxr).lt
        have hne : ¬ g6 = w.heap.size + 1 := by omega
        have hne2 : ¬ w.heap.size + 1 = g6 := by omega
        go_wp2_with fail
        refine bodyPost_ret (v := .tuple #[.agg #[.slice a9 ss.length c9, .slice none 0 0, .int .i64 (le - ps.length), .bool false], .int .i64 0]) (by simp [results, Try.results31, go_sem, *]) rfl (DiskErr.mk rfl (Disk.mk' ((((PO.out.sl etBs).keepM etBs ?_).more etBs Pl.less).more etBs Bx.less) (Sl.nil _ _ _ _)) ?_)
        · repeat (first | exact Mem.refl _ _ | refine Mem.setCell ?_ (.inr rfl) _ | refine Mem.setCell ?_ (.inl (.inr (by simp))) _)
        · repeat (first | exact hE.trans hxr | refine Ext.setCell ?_ (by first | (simp; done) | omega | (simp; omega)) _)

end Go.Proofs.Ytpciankfpagnhaa

/- What Sync of the reference of layer 41 does. -/
namespace Go.Proofs.Ytpciankfpagnhaa
open Go.RowKit


set_option maxHeartbeats 4000000 in
set_option maxRecDepth 100000 in
theorem refSync_stop {S : Nat → Prop} (w : World) (v : Value) (ss : List (List UInt8)) (ps : List Wr) (m : Nat) (h : Disk S w v ⟨ss, ps, (m : Int), false⟩) (hS : ∀ k, S k → k < w.heap.size) (hr : runsD ⟨ss, ps, (m : Int), false⟩ = true) (hmp : m < ps.length) (res : Dk × Int) (hres : res = (⟨(perfL ss (ps.take m)).set (ps[m]).at_.toNat ((ps[m]).data.take 64 ++ ((perfL ss (ps.take m)).getD (ps[m]).at_.toNat []).drop 64), [], 0, true⟩, 410)) :
    Calls Try.prog 31 #[v] w (DiskErr S w res) := by
  obtain ⟨a, c, a2, c2, rfl, hc, hm, hc2, hm2, h1, h2⟩ := h.open
  simp only at hc hm hc2 hm2 h1 h2
  have H := Lib.hid h; clear h
  have H1 := Lib.hid h1; clear h1
  have H2 := Lib.hid h2; clear h2
  have HS := Lib.hid hS; clear hS
  have HRES := Lib.hid hres; clear hres
  have hl0 : (0 : Int) ≤ m := by omega
  have hl2 : (m : Int) < (ps.length : Int) := by omega
  go_enter Try.func31, Try.ntmps31
  go_wp2_with fail
  refine (refCheck_ok _ _ ⟨ss, ps, (m : Int), false⟩ (H.out.keep (((Ext.refl _).alloc _).alloc _))).mono ?_
  rintro e w1 ⟨rfl, hx⟩
  have hE := (((Ext.refl w).alloc _).alloc _).trans hx
  have B0 := Lib.hid (((Box.new w _ _).past _).keep hx)
  have B1 := Lib.hid ((Box.at (b := w.heap.size + 1) (by simp)).keep hx)
  clear hx
  have hs0 : w.heap.size < w1.heap.size := B0.out.lt
  have hs1 : w.heap.size + 1 < w1.heap.size := B1.out.lt
  have hok : okD ⟨ss, ps, (m : Int), false⟩ = true := ((runsD_iff _).1 hr).1
  have hbd := okD_bounds hok
  simp only at hbd
  have e0 := chk_yes hok
  rw [e0]
  clear e0
  have hA : ∀ x ∈ ps, (0 ≤ x.at_ ∧ x.at_ < ss.length) ∧ x.data.length = 128 := fun x hx => by have := ok_at hok x hx; exact ⟨⟨this.1, this.2.1⟩, this.2.2⟩
  have HA := Lib.hid hA; clear hA
  have HL := Lib.hid (ok_sec hok)
  have hsec : ss.length ≤ 4096 := hbd.2.1
  have hpen : ps.length ≤ 4096 := hbd.2.2.1
  have hle : (m : Int) ≤ 65536 := hbd.2.2.2.2
  have HK := Lib.hid hok; clear hok hbd
  have HR := Lib.hid hr; clear hr
  obtain ⟨c00, c01, c02, c03, f00, f01, f02, f03⟩ := B0.out.four
  go_upto_region 7 with fail
  have HSS : Hid (∀ W, Ext w1 W → ∀ k, Bx S w.heap.size (w.heap.size + 2) k → k < W.heap.size) := Lib.hid fun W hX => Bx.lt HS.out (Nat.le_trans (Nat.le_of_lt hs0) hX.size) (Nat.le_trans (by omega) hX.size)
  have HM := Lib.hid ((H1.out.more etBs Bx.more).keepM etBs (hE.mem (Bx S w.heap.size (w.heap.size + 2))))
  go_cut [6] (fun p wx => ∃ (g6 : Nat) (a9 : Option Addr) (c9 : Nat), p = .pointer (some ⟨g6, 0, none⟩) ∧ ss.length ≤ c9 ∧ c9 ≤ 9223372036854775807 ∧ w1.heap.size ≤ g6 ∧ Hid (Box wx g6 [.slice a9 ss.length c9, .slice none 0 0, .int .i64 (m : Int), .bool false]) ∧
     Hid (OSl w1.heap.size 35 1 eBs (Pl (Bx S w.heap.size (w.heap.size + 2)) g6) wx (.slice a9 ss.length c9) ss) ∧ Ext w1 wx)
  case first =>
    refine reg31_7 (S := Bx S w.heap.size (w.heap.size + 2)) _ _ _ _ _ _ _ _ _ _ _ _ _ _ _ _ _ _ _ _ _ _ _ _ _ _ _ _ _ _ _ _ _ _ _ _ _ _ _ _ _ _ _ _ _ _ _ _ _ _ _ _ _ _ _ _ _ _ _ _ _ _ _ _ _ _ _ _ _ _ _ _ _ _ _ _ _ _ _ _ _ _ _ _ _ _ _ _ _ _ _ _ _ _ w1 w.heap.size a c ss _ _ (m : Int) B0.out HM.out (HSS.out w1 (Ext.refl w1)) hsec ?_
    intro u32 u33 u34 u35 u36 u37 u38 g6 a9 c9 wx h1 h2 h3 h4 h5 h6
    dsimp only
    go_wp2_with fail
    go_meet
    exact ⟨g6, a9, c9, rfl, h1, h2, h3, Lib.hid h4, Lib.hid h5, h6⟩
  case rest =>
    obtain ⟨g6, a9, c9, rfl, hc9, hm9, hg6, P6, PO, hx2⟩ := hcut
    generalize wc = w2 at *
    clear c00 c01 c02 c03 f00 f01 f02 f03 HM
    go_upto_region 8 with fail
    go_wp2_with fail
    go_loopw [7] (fun i wr => ∃ k : Nat, k ≤ m ∧ i = .int .i64 k ∧ Hid (OSl w1.heap.size 35 1 eBs (Pl (Bx S w.heap.size (w.heap.size + 2)) g6) wr (.slice a9 ss.length c9) (perfL ss (ps.take k))) ∧ Hid (Box wr g6 [.slice a9 ss.length c9, .slice none 0 0, .int .i64 (m : Int), .bool false]) ∧ Ext w1 wr) (fun i _ => m - (intOf i).toNat)
    case atStart => exact ⟨0, Nat.zero_le _, rfl, PO, P6, hx2⟩
    case round =>
      clear PO P6 hx2
      obtain ⟨k, hk, rfl, PO, P6, hxr⟩ := hrel
      by_cases hlt : k < m
      · have hltp : k < ps.length := by omega
        obtain ⟨b, o, vd, rfl, hb, x0, x1, hv⟩ := H2.out.elem hltp
        obtain ⟨a3, c3, rfl, hc3, hm3⟩ := hv.open
        have hts := perfL_snoc ss (ps.take k) ps[k]
        rw [← take_snoc' ps k hltp] at hts
        have hat := HA.out ps[k] (List.getElem_mem hltp)
        have hpl := perfL_length (ps.take k) ss
        have hEr := hE.trans hxr
        have y0 := hEr.cell x0
        have y1 := hEr.cell x1
        generalize ps[k] = x at *
        obtain ⟨at_, data⟩ := x
        simp only at *
        obtain ⟨n, rfl⟩ := Int.eq_ofNat_of_zero_le hat.1.1
        have hn : n < (perfL ss (ps.take k)).length := by rw [hpl]; omega
        obtain ⟨g, vd0, ea, hgb, hgl, hgS, -, -⟩ := PO.out.elemB hn
        cases ea
        have hD : Bs (Wo (Pl (Bx S w.heap.size (w.heap.size + 2)) g6) (.slice (some ⟨g, 0, none⟩) ss.length c9)) wr (.slice a3 data.length c3) data :=
          (hv.more etByte (fun q hq => by
            rcases hq with (hq | hq) | hq
            · exact Bx.more q hq
            · exact .inr (by omega)
            · simp [Value.ownBlock] at hq; exact .inr (by omega))).keepM etByte (hEr.mem _)
        have HD := Lib.hid hD; clear hD hv
        have HT := Lib.hid hts; clear hts
        have HP := Lib.hid hpl; clear hpl
        have HN := Lib.hid hn; clear hn
        obtain ⟨d00, d01, d02, d03, -, -, -, -⟩ := (B0.out.keep hxr).four
        obtain ⟨e00, e01, e02, e03, -, -, -, -⟩ := P6.out.four
        have hlt' : (k : Int) < (m : Int) := by omega
        clear x0 x1
        go_upto_region 11 with fail
        have EL := HP.out
        refine reg31_11 (S := Pl (Bx S w.heap.size (w.heap.size + 2)) g6) _ _ _ _ _ _ _ _ _ _ _ _ _ _ _ _ _ _ _ _ _ _ _ _ _ _ _ _ _ _ _ _ _ _ _ _ _ _ _ _ _ _ _ _ _ _ _ _ _ _ _ _ _ _ _ _ _ _ _ _ _ _ _ _ _ _ _ _ _ _ _ _ _ _ _ _ _ _ _ _ _ _ _ _ _ _ _ _ _ _ _ _ wr w1.heap.size g w.heap.size g6 n c9 (perfL ss (ps.take k)) a3 data.length c3 b o ps.length c2 k data (by rw [EL]; exact e00) d01 y0 y1 (by rw [EL]; exact PO.out) (by rw [EL]; exact HD.out) hltp HN.out ?_
        rw [EL]
        clear EL
        intro u44 u45 u46 u47 u48 u49 u50 u51 u52 u53 u54 u55 u56 u57 u58 w9 w10 hx9 ho9 hO9
        dsimp only
        have HO9 := Lib.hid hO9; clear hO9
        clear d00 d01 d02 d03 e00 e01 e02 e03 y0 y1
        have P10 := Lib.hid (ho9.box (P6.out.keep hx9) (fun hq => hgS (.inr hq.symm)))
        have hx10 := ho9.ext (hxr.trans hx9) hgb
        clear hx9 ho9 PO P6 hxr HD
        go_wp2_with fail
        go_roundw
        case rel => exact ⟨k + 1, by omega, by go_num, Lib.hid (by rw [HT.out]; exact HO9.out), P10, hx10⟩
        case measure => simp [intOf]; omega
      · obtain rfl : m = k := by omega
        have hlt' : ¬ (m : Int) < (m : Int) := by omega
        obtain ⟨b, o, vd, rfl, hb, x0, x1, hv⟩ := H2.out.elem hmp
        obtain ⟨a3, c3, rfl, hc3, hm3⟩ := hv.open
        have hat := HA.out ps[m] (List.getElem_mem hmp)
        have hpl := perfL_length (ps.take m) ss
        have hEr := hE.trans hxr
        have y0 := hEr.cell x0
        have y1 := hEr.cell x1
        have hsl : ∀ y ∈ perfL ss (ps.take m), y.length = 128 := perfL_all _ ss HL.out (fun x hx => (HA.out x (List.mem_of_mem_take hx)).2)
        generalize ps[m] = x at *
        obtain ⟨at_, data⟩ := x
        simp only at *
        obtain ⟨n, rfl⟩ := Int.eq_ofNat_of_zero_le hat.1.1
        have hn : n < (perfL ss (ps.take m)).length := by rw [hpl]; omega
        have hd128 := hat.2
        have hd0 : 0 < data.length := by omega
        obtain ⟨b3, o3, rfl, hb3, -⟩ := hv.cells hd0
        have hgd : (perfL ss (ps.take m)).getD n [] = (perfL ss (ps.take m))[n] := by rw [List.getD_eq_getElem?_getD, List.getElem?_eq_getElem hn]; rfl
        have HG := Lib.hid hgd; clear hgd
        have hs128 := hsl _ (List.getElem_mem hn)
        obtain ⟨g, vd0, ea, hgb, hgl, hgS, hgc, hgv⟩ := PO.out.elemB hn
        cases ea
        generalize (perfL ss (ps.take m))[n] = sec at *
        obtain ⟨aT, cT, rfl, hcT, hmT⟩ := hgv.open
        obtain ⟨bT, oT, rfl, hbT, -⟩ := hgv.cells (by omega)
        have hD : Bs (Wo (Pl (Bx S w.heap.size (w.heap.size + 2)) g6) (.slice (some ⟨g, 0, none⟩) ss.length c9)) wr (.slice (some ⟨b3, o3, none⟩) data.length c3) data :=
          (hv.more etByte (fun q hq => by
            rcases hq with (hq | hq) | hq
            · exact Bx.more q hq
            · exact .inr (by omega)
            · simp [Value.ownBlock] at hq; exact .inr (by omega))).keepM etByte (hEr.mem _)
        have HD := Lib.hid hD; clear hD hv
        have HP := Lib.hid hpl; clear hpl
        have HN := Lib.hid hn; clear hn
        have HSL := Lib.hid hsl; clear hsl
        have H128 := Lib.hid hs128; clear hs128
        have HD128 := Lib.hid hd128; clear hd128
        have HGV := Lib.hid hgv; clear hgv
        have HAT := Lib.hid hat; clear hat
        obtain ⟨d00, d01, d02, d03, -, -, -, -⟩ := (B0.out.keep hxr).four
        obtain ⟨e00, e01, e02, e03, -, -, -, -⟩ := P6.out.four
        have hm0 : (0 : Int) ≤ m := by omega
        have hm1 : (m : Int) < ps.length := by omega
        clear x0 x1
        go_upto_region 14 with fail
        have hx11 : Ext wr (wr.alloc (.cells #[.int .i64 (n : Int), .slice (some ⟨b3, o3, none⟩) data.length c3] 76)) := (Ext.refl wr).alloc _
        have B8 := (Box.new wr [.int .i64 (n : Int), .slice (some ⟨b3, o3, none⟩) data.length c3] 76)
        obtain ⟨k80, k81, -, -⟩ := B8.two
        have hgT := hx11.cell hgc
        have e60 := hx11.cell e00
        have PO2 := PO.out.keep etBs hx11
        have P62 := Lib.hid (P6.out.keep hx11)
        have HD2 := HD.out.keepM etByte (hx11.mem _)
        have HT2 := HGV.out.keepM etByte (hx11.mem _)
        have hx12 := hxr.trans hx11
        clear d00 d01 d02 d03 e00 e01 e02 e03 y0 y1 hgc PO P6 HD HGV B8
        generalize wr.alloc (.cells #[.int .i64 (n : Int), .slice (some ⟨b3, o3, none⟩) data.length c3] 76) = w11 at *
        generalize wr.heap.size = g8 at *
        clear hx11
        have EL := HP.out
        have E1 := H128.out
        have E2 := HD128.out
        refine reg31_14 (S := Pl (Bx S w.heap.size (w.heap.size + 2)) g6) _ _ _ _ _ _ _ _ _ _ _ _ _ _ _ _ _ _ _ _ _ _ _ _ _ _ _ _ _ _ _ _ _ _ _ _ _ _ _ _ _ _ _ _ _ _ _ _ _ _ _ _ _ _ _ _ _ _ _ _ _ _ _ _ _ _ _ _ _ _ _ _ _ _ _ _ _ _ _ _ _ _ _ _ _ _ _ _ _ _ _ _ _ w11 w1.heap.size g g6 g8 n c9 (perfL ss (ps.take m)) b3 o3 data.length c3 bT oT sec.length cT data sec (by rw [EL]; exact e60) k80 k81 hgT (by rw [EL]; exact PO2) (by rw [EL]; exact HD2) (by rw [EL]; exact HT2) (by omega) (by omega) (by omega) (by omega) hcT hmT (by omega) hm3 HN.out (fun k hk => by rcases hk with hk | hk; exact HSS.out _ hx12 k hk; subst hk; exact P62.out.lt) ?_
        rw [EL]
        clear EL E1 E2 e60 k80 k81 hgT HD2 HT2 PO2
        intro u65 u66 u67 u68 u69 u70 u71 u72 u73 u74 u75 u76 u77 u78 u79 u80 u81 u82 w9 w10 hx9 ho9 hO9
        dsimp only
        have P10 := Lib.hid (ho9.box (P62.out.keep hx9) (fun hq => hgS (.inr hq.symm)))
        have hx10 := ho9.ext (hx12.trans hx9) hgb
        have HO9 := Lib.hid hO9; clear hO9 hx9 ho9 P62
        obtain ⟨e00, e01, e02, e03, f00, f01, f02, f03⟩ := P10.out.four
        obtain ⟨d00, d01, d02, d03, f10, f11, f12, f13⟩ := (B1.out.keep hx10).four
        have hz6 : g6 < w10.heap.size := P10.out.lt
        have hz1 : w.heap.size + 1 < w10.heap.size := (B1.out.keep hx10).lt
        have hne : ¬ g6 = w.heap.size + 1 := by omega
        have hne2 : ¬ w.heap.size + 1 = g6 := by omega
        go_upto_region 17 with fail
        have P12 := (P10.out.set 2 (.int .i64 0)).set 3 (.bool true)
        have ho12 := (only_setCell w10 ⟨g6, 2, none⟩ (.int .i64 0)).trans (only_setCell _ ⟨g6, 3, none⟩ (.bool true))
        generalize (w10.setCell ⟨g6, 2, none⟩ (.int .i64 0)).setCell ⟨g6, 3, none⟩ (.bool true) = w12 at *
        have HO12 := Lib.hid (HO9.out.keepM etBs (ho12.mem (.inr rfl)))
        have hx13 := ho12.ext hx10 hg6
        clear e00 e01 e02 e03 f00 f01 f02 f03 d00 d01 d02 d03 f10 f11 f12 f13 hz6 hz1 HO9 ho12 P10
        obtain ⟨e00, e01, e02, e03, f00, f01, f02, f03⟩ := P12.four
        obtain ⟨d00, d01, d02, d03, f10, f11, f12, f13⟩ := (B1.out.keep hx13).four
        have hz6 : g6 < w12.heap.size := P12.lt
        have hz1 : w.heap.size + 1 < w12.heap.size := (B1.out.keep hx13).lt
        clear P12
        go_wp2_with fail
        refine bodyPost_ret (v := .tuple #[.agg #[.slice (some ⟨g, 0, none⟩) ss.length c9, .slice none 0 0, .int .i64 0, .bool true], .int .i64 410]) (by simp [results, Try.results31, go_sem, *]) rfl (DiskErr.mk (by rw [HRES.out, Int.toNat_natCast, HG.out]) (Disk.mk' ((((HO12.out.sl etBs).keepM etBs ?_).more etBs Pl.less).more etBs Bx.less) (Sl.nil _ _ _ _)) ?_)
        · repeat (first | exact Mem.refl _ _ | refine Mem.setCell ?_ (.inr rfl) _ | refine Mem.setCell ?_ (.inl (.inr (by simp))) _)
        · repeat (first | exact hE.trans hx13 | refine Ext.setCell ?_ (by first | (simp; done) | omega | (simp; omega)) _)

end Go.Proofs.Ytpciankfpagnhaa

/- What Sync of the reference of layer 41 does, in one sentence. -/
namespace Go.Proofs.Ytpciankfpagnhaa
open Go.RowKit

set_option maxHeartbeats 2000000 in
set_option maxRecDepth 100000 in
theorem refSync_no {S : Nat → Prop} (w : World) (v : Value) (d : Dk) (h : Disk S w v d) (hr : runsD d = false) :
    Calls Try.prog 31 #[v] w (DiskErr S w (zeroD, 410)) := by
  obtain ⟨a, c, a2, c2, rfl, hc, hm, hc2, hm2, h1, h2⟩ := h.open
  have H := Lib.hid h; clear h
  clear h1 h2
  go_enter Try.func31, Try.ntmps31
  go_wp2_with fail
  refine (refCheck_ok _ _ d (H.out.keep (((Ext.refl _).alloc _).alloc _))).mono ?_
  rintro e w1 ⟨rfl, hx⟩
  have hE := (((Ext.refl w).alloc _).alloc _).trans hx
  have B0 := Lib.hid (((Box.new w _ _).past _).keep hx)
  have B1 := Lib.hid ((Box.at (b := w.heap.size + 1) (by simp)).keep hx)
  clear hx
  obtain ⟨c00, c01, c02, c03, f00, f01, f02, f03⟩ := B0.out.four
  obtain ⟨d00, d01, d02, d03, f10, f11, f12, f13⟩ := B1.out.four
  have hs1 : w.heap.size + 1 < w1.heap.size := B1.out.lt
  have e0 := chk_bne d
  cases hok : okD d
  · rw [hok] at e0
    simp only [Bool.not_false] at e0
    go_wp2_with fail
    refine bodyPost_ret (v := .tuple #[.agg #[.slice none 0 0, .slice none 0 0, .int .i64 0, .bool false], .int .i64 410]) (by simp [results, Try.results31, go_sem, *]) rfl (DiskErr.mk rfl (zeroD_disk _ _) ?_)
    repeat (first | exact hE | refine Ext.setCell ?_ (by simp) _)
  · rw [hok] at e0
    simp only [Bool.not_true] at e0
    have hst : d.stopped = true := by unfold runsD at hr; rw [hok] at hr; simpa using hr
    rw [hst] at c03
    clear hst
    go_wp2_with fail
    refine bodyPost_ret (v := .tuple #[.agg #[.slice none 0 0, .slice none 0 0, .int .i64 0, .bool false], .int .i64 410]) (by simp [results, Try.results31, go_sem, *]) rfl (DiskErr.mk rfl (zeroD_disk _ _) ?_)
    repeat (first | exact hE | refine Ext.setCell ?_ (by simp) _)

theorem refSync_ok {S : Nat → Prop} (w : World) (v : Value) (d : Dk) (h : Disk S w v d) (hS : ∀ k, S k → k < w.heap.size) :
    Calls Try.prog 31 #[v] w (DiskErr S w (syncD d)) := by
  cases hr : runsD d
  · have := refSync_no w v d h hr
    rwa [show syncD d = (zeroD, 410) by unfold syncD; rw [hr]; rfl]
  · obtain ⟨ss, ps, le, st⟩ := d
    have hst : st = false := ((runsD_iff _).1 hr).2
    subst hst
    rw [syncD_runs hr]
    simp only
    by_cases h1 : 0 ≤ le ∧ le < ps.length
    · rw [if_pos h1]
      obtain ⟨m, rfl⟩ := Int.eq_ofNat_of_zero_le h1.1
      have hm : m < ps.length := by omega
      refine refSync_stop w v ss ps m h hS hr hm _ ?_
      simp only [Int.toNat_natCast]
      have e : ps.getD m ⟨0, []⟩ = ps[m] := by rw [List.getD_eq_getElem?_getD, List.getElem?_eq_getElem hm]; rfl
      rw [e]
    · rw [if_neg h1]
      by_cases h0 : 0 ≤ le
      · rw [if_pos h0]
        exact refSync_plus w v ss ps le h hS hr (by omega)
      · rw [if_neg h0]
        exact refSync_minus w v ss ps le h hS hr (by omega)
end Go.Proofs.Ytpciankfpagnhaa
