/- What Sync of the reference of layer 41 does. -/
import Derived.Test.YtpciankfpagnhaaD25b
import Derived.Test.YtpciankfpagnhaaD9
import Derived.Test.YtpciankfpagnhaaD20
import Derived.Test.YtpciankfpagnhaaM6
import Derived.Deep.DeepCutAuto
namespace Go.Proofs.Ytpciankfpagnhaa
open Go.RowKit

theorem Pl.less {S : Nat → Prop} {w : World} {G : Nat} : ∀ k, S k → Pl S G k ∨ w.heap.size ≤ k := fun _ h => .inl (.inl h)

set_option maxHeartbeats 4000000 in
set_option maxRecDepth 100000 in
theorem refSync_minus {S : Nat → Prop} (w : World) (v : Value) (ss : List (List UInt8)) (ps : List Wr) (le : Int) (h : Disk S w v ⟨ss, ps, le, false⟩) (hS : ∀ k, S k → k < w.heap.size) (hr : runsD ⟨ss, ps, le, false⟩ = true) (hl : le < 0) :
    Calls Try.prog 31 #[v] w (DiskErr S w (⟨perfL ss ps, [], le, false⟩, 0)) := by
  obtain ⟨a, c, a2, c2, rfl, hc, hm, hc2, hm2, h1, h2⟩ := h.open
  simp only at hc hm hc2 hm2 h1 h2
  have H := Lib.hid h; clear h
  have H1 := Lib.hid h1; clear h1
  have H2 := Lib.hid h2; clear h2
  have HS := Lib.hid hS; clear hS
  have hl2 : ¬ 0 ≤ le := by omega
  go_enter Try.func31, Try.ntmps31
  go_wp2_with fail
  refine (refCheck_ok _ _ ⟨ss, ps, le, false⟩ (H.out.keep (((Ext.refl _).alloc _).alloc _))).mono ?_
  rintro e w1 ⟨rfl, hx⟩
  have hE := (((Ext.refl w).alloc _).alloc _).trans hx
  have B0 := Lib.hid (((Box.new w _ _).past _).keep hx)
  have B1 := Lib.hid ((Box.at (b := w.heap.size + 1) (by simp)).keep hx)
  clear hx
  have hs0 : w.heap.size < w1.heap.size := B0.out.lt
  have hs1 : w.heap.size + 1 < w1.heap.size := B1.out.lt
  have hok : okD ⟨ss, ps, le, false⟩ = true := ((runsD_iff _).1 hr).1
  have hbd := okD_bounds hok
  simp only at hbd
  have e0 := chk_yes hok
  rw [e0]
  clear e0
  have hA : ∀ x ∈ ps, (0 ≤ x.at_ ∧ x.at_ < ss.length) ∧ x.data.length = 128 := fun x hx => by have := ok_at hok x hx; exact ⟨⟨this.1, this.2.1⟩, this.2.2⟩
  have HA := Lib.hid hA; clear hA
  have HL := Lib.hid (ok_sec hok)
  have hsec : ss.length ≤ 4096 := hbd.2.1
  have hpen : ps.length ≤ 4096 := hbd.2.2.1
  have hle : le ≤ 65536 := hbd.2.2.2.2
  have HK := Lib.hid hok; clear hok hbd
  have HR := Lib.hid hr; clear hr
  obtain ⟨c00, c01, c02, c03, f00, f01, f02, f03⟩ := B0.out.four
  go_upto_region 7 with fail
  have HSS : Hid (∀ W, Ext w1 W → ∀ k, Bx S w.heap.size (w.heap.size + 2) k → k < W.heap.size) := Lib.hid fun W hX => Bx.lt HS.out (Nat.le_trans (Nat.le_of_lt hs0) hX.size) (Nat.le_trans (by omega) hX.size)
  have HM := Lib.hid ((H1.out.more etBs Bx.more).keepM etBs (hE.mem (Bx S w.heap.size (w.heap.size + 2))))
  go_cut [6] (fun p wx => ∃ (g6 : Nat) (a9 : Option Addr) (c9 : Nat), p = .pointer (some ⟨g6, 0, none⟩) ∧ ss.length ≤ c9 ∧ c9 ≤ 9223372036854775807 ∧ w1.heap.size ≤ g6 ∧ Hid (Box wx g6 [.slice a9 ss.length c9, .slice none 0 0, .int .i64 le, .bool false]) ∧
     Hid (OSl w1.heap.size 35 1 eBs (Pl (Bx S w.heap.size (w.heap.size + 2)) g6) wx (.slice a9 ss.length c9) ss) ∧ Ext w1 wx)
  case first =>
    refine reg31_7 (S := Bx S w.heap.size (w.heap.size + 2)) _ _ _ _ _ _ _ _ _ _ _ _ _ _ _ _ _ _ _ _ _ _ _ _ _ _ _ _ _ _ _ _ _ _ _ _ _ _ _ _ _ _ _ _ _ _ _ _ _ _ _ _ _ _ _ _ _ _ _ _ _ _ _ _ _ _ _ _ _ _ _ _ _ _ _ _ _ _ _ _ _ _ _ _ _ _ _ _ _ _ _ _ _ _ w1 w.heap.size a c ss _ _ le B0.out HM.out (HSS.out w1 (Ext.refl w1)) hsec ?_
    intro u32 u33 u34 u35 u36 u37 u38 g6 a9 c9 wx h1 h2 h3 h4 h5 h6
    dsimp only
    go_wp2_with fail
    go_meet
    exact ⟨g6, a9, c9, rfl, h1, h2, h3, Lib.hid h4, Lib.hid h5, h6⟩
  case rest =>
    obtain ⟨g6, a9, c9, rfl, hc9, hm9, hg6, P6, PO, hx2⟩ := hcut
    generalize wc = w2 at *
    clear c00 c01 c02 c03 f00 f01 f02 f03 HM
    go_upto_region 8 with fail
    go_wp2_with fail
    go_loopw [7] (fun i wr => ∃ k : Nat, k ≤ ps.length ∧ i = .int .i64 k ∧ Hid (OSl w1.heap.size 35 1 eBs (Pl (Bx S w.heap.size (w.heap.size + 2)) g6) wr (.slice a9 ss.length c9) (perfL ss (ps.take k))) ∧ Hid (Box wr g6 [.slice a9 ss.length c9, .slice none 0 0, .int .i64 le, .bool false]) ∧ Ext w1 wr) (fun i _ => ps.length - (intOf i).toNat)
    case atStart => exact ⟨0, Nat.zero_le _, rfl, PO, P6, hx2⟩
    case round =>
      clear PO P6 hx2
      obtain ⟨k, hk, rfl, PO, P6, hxr⟩ := hrel
      by_cases hlt : k < ps.length
      · have hltp : k < ps.length := by omega
        obtain ⟨b, o, vd, rfl, hb, x0, x1, hv⟩ := H2.out.elem hltp
        obtain ⟨a3, c3, rfl, hc3, hm3⟩ := hv.open
        have hts := perfL_snoc ss (ps.take k) ps[k]
        rw [← take_snoc' ps k hltp] at hts
        have hat := HA.out ps[k] (List.getElem_mem hltp)
        have hpl := perfL_length (ps.take k) ss
        have hEr := hE.trans hxr
        have y0 := hEr.cell x0
        have y1 := hEr.cell x1
        generalize ps[k] = x at *
        obtain ⟨at_, data⟩ := x
        simp only at *
        obtain ⟨n, rfl⟩ := Int.eq_ofNat_of_zero_le hat.1.1
        have hn : n < (perfL ss (ps.take k)).length := by rw [hpl]; omega
        obtain ⟨g, vd0, ea, hgb, hgl, hgS, -, -⟩ := PO.out.elemB hn
        cases ea
        have hD : Bs (Wo (Pl (Bx S w.heap.size (w.heap.size + 2)) g6) (.slice (some ⟨g, 0, none⟩) ss.length c9)) wr (.slice a3 data.length c3) data :=
          (hv.more etByte (fun q hq => by
            rcases hq with (hq | hq) | hq
            · exact Bx.more q hq
            · exact .inr (by omega)
            · simp [Value.ownBlock] at hq; exact .inr (by omega))).keepM etByte (hEr.mem _)
        have HD := Lib.hid hD; clear hD hv
        have HT := Lib.hid hts; clear hts
        have HP := Lib.hid hpl; clear hpl
        have HN := Lib.hid hn; clear hn
        obtain ⟨d00, d01, d02, d03, -, -, -, -⟩ := (B0.out.keep hxr).four
        obtain ⟨e00, e01, e02, e03, -, -, -, -⟩ := P6.out.four
        have hlt' : (k : Int) < (ps.length : Int) := by omega
        clear x0 x1
        go_upto_region 11 with fail
        have EL := HP.out
        refine reg31_11 (S := Pl (Bx S w.heap.size (w.heap.size + 2)) g6) _ _ _ _ _ _ _ _ _ _ _ _ _ _ _ _ _ _ _ _ _ _ _ _ _ _ _ _ _ _ _ _ _ _ _ _ _ _ _ _ _ _ _ _ _ _ _ _ _ _ _ _ _ _ _ _ _ _ _ _ _ _ _ _ _ _ _ _ _ _ _ _ _ _ _ _ _ _ _ _ _ _ _ _ _ _ _ _ _ _ _ _ wr w1.heap.size g w.heap.size g6 n c9 (perfL ss (ps.take k)) a3 data.length c3 b o ps.length c2 k data (by rw [EL]; exact e00) d01 y0 y1 (by rw [EL]; exact PO.out) (by rw [EL]; exact HD.out) hltp HN.out ?_
        rw [EL]
        clear EL
        intro u44 u45 u46 u47 u48 u49 u50 u51 u52 u53 u54 u55 u56 u57 u58 w9 w10 hx9 ho9 hO9
        dsimp only
        have HO9 := Lib.hid hO9; clear hO9
        clear d00 d01 d02 d03 e00 e01 e02 e03 y0 y1
        have P10 := Lib.hid (ho9.box (P6.out.keep hx9) (fun hq => hgS (.inr hq.symm)))
        have hx10 := ho9.ext (hxr.trans hx9) hgb
        clear hx9 ho9 PO P6 hxr HD
        go_wp2_with fail
        go_roundw
        case rel => exact ⟨k + 1, by omega, by go_num, Lib.hid (by rw [HT.out]; exact HO9.out), P10, hx10⟩
        case measure => simp [intOf]; omega
      · obtain rfl : ps.length = k := by omega
        have hlt' : ¬ (ps.length : Int) < (ps.length : Int) := by omega
        rw [List.take_length] at PO
        obtain ⟨e00, e01, e02, e03, f00, f01, f02, f03⟩ := P6.out.four
        obtain ⟨d00, d01, d02, d03, f10, f11, f12, f13⟩ := (B1.out.keep hxr).four
        have hz6 : g6 < wr.heap.size := P6.out.lt
        have hz1 : w.heap.size + 1 < wr.heap.size := (B1.out.keep hxr).lt
        have hne : ¬ g6 = w.heap.size + 1 := by omega
        have hne2 : ¬ w.heap.size + 1 = g6 := by omega
        go_wp2_with fail
        refine bodyPost_ret (v := .tuple #[.agg #[.slice a9 ss.length c9, .slice none 0 0, .int .i64 (le), .bool false], .int .i64 0]) (by simp [results, Try.results31, go_sem, *]) rfl (DiskErr.mk rfl (Disk.mk' ((((PO.out.sl etBs).keepM etBs ?_).more etBs Pl.less).more etBs Bx.less) (Sl.nil _ _ _ _)) ?_)
        · repeat (first | exact Mem.refl _ _ | refine Mem.setCell ?_ (.inr rfl) _ | refine Mem.setCell ?_ (.inl (.inr (by simp))) _)
        · repeat (first | exact hE.trans hxr | refine Ext.setCell ?_ (by first | (simp; done) | omega | (simp; omega)) _)


set_option maxHeartbeats 4000000 in
set_option maxRecDepth 100000 in
theorem refSync_plus {S : Nat → Prop} (w : World) (v : Value) (ss : List (List UInt8)) (ps : List Wr) (le : Int) (h : Disk S w v ⟨ss, ps, le, false⟩) (hS : ∀ k, S k → k < w.heap.size) (hr : runsD ⟨ss, ps, le, false⟩ = true) (hl : (ps.length : Int) ≤ le) :
    Calls Try.prog 31 #[v] w (DiskErr S w (⟨perfL ss ps, [], le - ps.length, false⟩, 0)) := by
  obtain ⟨a, c, a2, c2, rfl, hc, hm, hc2, hm2, h1, h2⟩ := h.open
  simp only at hc hm hc2 hm2 h1 h2
  have H := Lib.hid h; clear h
  have H1 := Lib.hid h1; clear h1
  have H2 := Lib.hid h2; clear h2
  have HS := Lib.hid hS; clear hS
  have hl0 : 0 ≤ le := by omega
  have hl2 : ¬ le < (ps.length : Int) := by omega
  go_enter Try.func31, Try.ntmps31
  go_wp2_with fail
  refine (refCheck_ok _ _ ⟨ss, ps, le, false⟩ (H.out.keep (((Ext.refl _).alloc _).alloc _))).mono ?_
  rintro e w1 ⟨rfl, hx⟩
  have hE := (((Ext.refl w).alloc _).alloc _).trans hx
  have B0 := Lib.hid (((Box.new w _ _).past _).keep hx)
  have B1 := Lib.hid ((Box.at (b := w.heap.size + 1) (by simp)).keep hx)
  clear hx
  have hs0 : w.heap.size < w1.heap.size := B0.out.lt
  have hs1 : w.heap.size + 1 < w1.heap.size := B1.out.lt
  have hok : okD ⟨ss, ps, le, false⟩ = true := ((runsD_iff _).1 hr).1
  have hbd := okD_bounds hok
  simp only at hbd
  have e0 := chk_yes hok
  rw [e0]
  clear e0
  have hA : ∀ x ∈ ps, (0 ≤ x.at_ ∧ x.at_ < ss.length) ∧ x.data.length = 128 := fun x hx => by have := ok_at hok x hx; exact ⟨⟨this.1, this.2.1⟩, this.2.2⟩
  have HA := Lib.hid hA; clear hA
  have HL := Lib.hid (ok_sec hok)
  have hsec : ss.length ≤ 4096 := hbd.2.1
  have hpen : ps.length ≤ 4096 := hbd.2.2.1
  have hle : le ≤ 65536 := hbd.2.2.2.2
  have HK := Lib.hid hok; clear hok hbd
  have HR := Lib.hid hr; clear hr
  obtain ⟨c00, c01, c02, c03, f00, f01, f02, f03⟩ := B0.out.four
  go_upto_region 7 with fail
  have HSS : Hid (∀ W, Ext w1 W → ∀ k, Bx S w.heap.size (w.heap.size + 2) k → k < W.heap.size) := Lib.hid fun W hX => Bx.lt HS.out (Nat.le_trans (Nat.le_of_lt hs0) hX.size) (Nat.le_trans (by omega) hX.size)
  have HM := Lib.hid ((H1.out.more etBs Bx.more).keepM etBs (hE.mem (Bx S w.heap.size (w.heap.size + 2))))
  go_cut [6] (fun p wx => ∃ (g6 : Nat) (a9 : Option Addr) (c9 : Nat), p = .pointer (some ⟨g6, 0, none⟩) ∧ ss.length ≤ c9 ∧ c9 ≤ 9223372036854775807 ∧ w1.heap.size ≤ g6 ∧ Hid (Box wx g6 [.slice a9 ss.length c9, .slice none 0 0, .int .i64 le, .bool false]) ∧
     Hid (OSl w1.heap.size 35 1 eBs (Pl (Bx S w.heap.size (w.heap.size + 2)) g6) wx (.slice a9 ss.length c9) ss) ∧ Ext w1 wx)
  case first =>
    refine reg31_7 (S := Bx S w.heap.size (w.heap.size + 2)) _ _ _ _ _ _ _ _ _ _ _ _ _ _ _ _ _ _ _ _ _ _ _ _ _ _ _ _ _ _ _ _ _ _ _ _ _ _ _ _ _ _ _ _ _ _ _ _ _ _ _ _ _ _ _ _ _ _ _ _ _ _ _ _ _ _ _ _ _ _ _ _ _ _ _ _ _ _ _ _ _ _ _ _ _ _ _ _ _ _ _ _ _ _ w1 w.heap.size a c ss _ _ le B0.out HM.out (HSS.out w1 (Ext.refl w1)) hsec ?_
    intro u32 u33 u34 u35 u36 u37 u38 g6 a9 c9 wx h1 h2 h3 h4 h5 h6
    dsimp only
    go_wp2_with fail
    go_meet
    exact ⟨g6, a9, c9, rfl, h1, h2, h3, Lib.hid h4, Lib.hid h5, h6⟩
  case rest =>
    obtain ⟨g6, a9, c9, rfl, hc9, hm9, hg6, P6, PO, hx2⟩ := hcut
    generalize wc = w2 at *
    clear c00 c01 c02 c03 f00 f01 f02 f03 HM
    go_upto_region 8 with fail
    go_wp2_with fail
    go_loopw [7] (fun i wr => ∃ k : Nat, k ≤ ps.length ∧ i = .int .i64 k ∧ Hid (OSl w1.heap.size 35 1 eBs (Pl (Bx S w.heap.size (w.heap.size + 2)) g6) wr (.slice a9 ss.length c9) (perfL ss (ps.take k))) ∧ Hid (Box wr g6 [.slice a9 ss.length c9, .slice none 0 0, .int .i64 le, .bool false]) ∧ Ext w1 wr) (fun i _ => ps.length - (intOf i).toNat)
    case atStart => exact ⟨0, Nat.zero_le _, rfl, PO, P6, hx2⟩
    case round =>
      clear PO P6 hx2
      obtain ⟨k, hk, rfl, PO, P6, hxr⟩ := hrel
      by_cases hlt : k < ps.length
      · have hltp : k < ps.length := by omega
        obtain ⟨b, o, vd, rfl, hb, x0, x1, hv⟩ := H2.out.elem hltp
        obtain ⟨a3, c3, rfl, hc3, hm3⟩ := hv.open
        have hts := perfL_snoc ss (ps.take k) ps[k]
        rw [← take_snoc' ps k hltp] at hts
        have hat := HA.out ps[k] (List.getElem_mem hltp)
        have hpl := perfL_length (ps.take k) ss
        have hEr := hE.trans hxr
        have y0 := hEr.cell x0
        have y1 := hEr.cell x1
        generalize ps[k] = x at *
        obtain ⟨at_, data⟩ := x
        simp only at *
        obtain ⟨n, rfl⟩ := Int.eq_ofNat_of_zero_le hat.1.1
        have hn : n < (perfL ss (ps.take k)).length := by rw [hpl]; omega
        obtain ⟨g, vd0, ea, hgb, hgl, hgS, -, -⟩ := PO.out.elemB hn
        cases ea
        have hD : Bs (Wo (Pl (Bx S w.heap.size (w.heap.size + 2)) g6) (.slice (some ⟨g, 0, none⟩) ss.length c9)) wr (.slice a3 data.length c3) data :=
          (hv.more etByte (fun q hq => by
            rcases hq with (hq | hq) | hq
            · exact Bx.more q hq
            · exact .inr (by omega)
            · simp [Value.ownBlock] at hq; exact .inr (by omega))).keepM etByte (hEr.mem _)
        have HD := Lib.hid hD; clear hD hv
        have HT := Lib.hid hts; clear hts
        have HP := Lib.hid hpl; clear hpl
        have HN := Lib.hid hn; clear hn
        obtain ⟨d00, d01, d02, d03, -, -, -, -⟩ := (B0.out.keep hxr).four
        obtain ⟨e00, e01, e02, e03, -, -, -, -⟩ := P6.out.four
        have hlt' : (k : Int) < (ps.length : Int) := by omega
        clear x0 x1
        go_upto_region 11 with fail
        have EL := HP.out
        refine reg31_11 (S := Pl (Bx S w.heap.size (w.heap.size + 2)) g6) _ _ _ _ _ _ _ _ _ _ _ _ _ _ _ _ _ _ _ _ _ _ _ _ _ _ _ _ _ _ _ _ _ _ _ _ _ _ _ _ _ _ _ _ _ _ _ _ _ _ _ _ _ _ _ _ _ _ _ _ _ _ _ _ _ _ _ _ _ _ _ _ _ _ _ _ _ _ _ _ _ _ _ _ _ _ _ _ _ _ _ _ wr w1.heap.size g w.heap.size g6 n c9 (perfL ss (ps.take k)) a3 data.length c3 b o ps.length c2 k data (by rw [EL]; exact e00) d01 y0 y1 (by rw [EL]; exact PO.out) (by rw [EL]; exact HD.out) hltp HN.out ?_
        rw [EL]
        clear EL
        intro u44 u45 u46 u47 u48 u49 u50 u51 u52 u53 u54 u55 u56 u57 u58 w9 w10 hx9 ho9 hO9
        dsimp only
        have HO9 := Lib.hid hO9; clear hO9
        clear d00 d01 d02 d03 e00 e01 e02 e03 y0 y1
        have P10 := Lib.hid (ho9.box (P6.out.keep hx9) (fun hq => hgS (.inr hq.symm)))
        have hx10 := ho9.ext (hxr.trans hx9) hgb
        clear hx9 ho9 PO P6 hxr HD
        go_wp2_with fail
        go_roundw
        case rel => exact ⟨k + 1, by omega, by go_num, Lib.hid (by rw [HT.out]; exact HO9.out), P10, hx10⟩
        case measure => simp [intOf]; omega
      · obtain rfl : ps.length = k := by omega
        have hlt' : ¬ (ps.length : Int) < (ps.length : Int) := by omega
        rw [List.take_length] at PO
        obtain ⟨e00, e01, e02, e03, f00, f01, f02, f03⟩ := P6.out.four
        obtain ⟨d00, d01, d02, d03, f10, f11, f12, f13⟩ := (B1.out.keep hxr).four
        have hz6 : g6 < wr.heap.size := P6.out.lt
        have hz1 : w.heap.size + 1 < wr.heap.size := (B1.out.keep hxr).lt
        have hne : ¬ g6 = w.heap.size + 1 := by omega
        have hne2 : ¬ w.heap.size + 1 = g6 := by omega
        go_wp2_with fail
        refine bodyPost_ret (v := .tuple #[.agg #[.slice a9 ss.length c9, .slice none 0 0, .int .i64 (le - ps.length), .bool false], .int .i64 0]) (by simp [results, Try.results31, go_sem, *]) rfl (DiskErr.mk rfl (Disk.mk' ((((PO.out.sl etBs).keepM etBs ?_).more etBs Pl.less).more etBs Bx.less) (Sl.nil _ _ _ _)) ?_)
        · repeat (first | exact Mem.refl _ _ | refine Mem.setCell ?_ (.inr rfl) _ | refine Mem.setCell ?_ (.inl (.inr (by simp))) _)
        · repeat (first | exact hE.trans hxr | refine Ext.setCell ?_ (by first | (simp; done) | omega | (simp; omega)) _)

end Go.Proofs.Ytpciankfpagnhaa
