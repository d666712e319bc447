/- The law DiskReads returns true on every input. -/
import Derived.Test.YtpciankfpagnhaaD24
import Derived.Test.YtpciankfpagnhaaM6
namespace Go.Proofs.Ytpciankfpagnhaa
open Go.RowKit

set_option maxRecDepth 100000 in
set_option maxHeartbeats 4000000 in
theorem diskReads_ok (w : World) (v : Value) (d : Dk) (i j : Int) (vb : Value) (b : List UInt8) (vc : Value) (c : List UInt8) (h : Disk No w v d) (hb : Bs No w vb b) (hc : Bs No w vc c) (hr : ReachD d) :
    Calls Try.prog 7 #[v, .int .i64 i, .int .i64 j, vb, vc] w fun e w' => e = .returned (.bool true) ∧ Ext w w' := by
  obtain ⟨a1, c1, a2, c2, rfl, -, -, -, -, -, -⟩ := h.open
  obtain ⟨a3, c3, rfl, hc3, hm3⟩ := hb.open
  obtain ⟨a4, c4, rfl, hc4, hm4⟩ := hc.open
  have H := Lib.hid h; clear h
  have HB := Lib.hid hb; clear hb
  have HC := Lib.hid hc; clear hc
  have HR := Lib.hid hr; clear hr
  go_enter Try.func7, Try.ntmps7
  go_wp2_with fail
  refine (sane41_ok _).mono ?_
  rintro e w1 ⟨rfl, hx⟩
  have hE := ((Ext.refl w).alloc _).trans hx
  have B0 := Lib.hid ((Box.new w _ _).keep hx)
  clear hx
  obtain ⟨c00, c01, c02, c03, -, -, -, -⟩ := B0.out.four
  go_wp2_with fail
  refine (few_ok _ _ d (H.out.keep hE) HR.out).mono ?_
  rintro e w2 ⟨rfl, hx⟩
  have C0 := Lib.hid (B0.out.keep hx); clear B0 c00 c01 c02 c03
  have hE2 := hE.trans hx
  clear hx hE
  cases hf : fewD d
  · go_wp2_with fail
    go_ret
    exact ⟨rfl, hE2⟩
  by_cases hl : 128 < b.length
  · have hl' : (128 : Int) < (b.length : Int) := by omega
    go_wp2_with fail
    go_ret
    exact ⟨rfl, hE2⟩
  by_cases hlc : 128 < c.length
  · have hl' : ¬ (128 : Int) < (b.length : Int) := by omega
    have hlc' : (128 : Int) < (c.length : Int) := by omega
    go_wp2_with fail
    go_ret
    exact ⟨rfl, hE2⟩
  have hl' : ¬ (128 : Int) < (b.length : Int) := by omega
  have hlc' : ¬ (128 : Int) < (c.length : Int) := by omega
  obtain ⟨c00, c01, c02, c03, -, -, -, -⟩ := C0.out.four
  go_wp2_with fail
  -- before, e
  refine (read_ok _ _ d j (H.out.keep hE2)).mono ?_
  rintro e w3 ⟨v3, rfl, hb3, hx3⟩
  generalize hY : readD d j = Y at *
  have HY := Lib.hid hY; clear hY
  obtain ⟨y0, ye⟩ := Y
  obtain ⟨a5, c5, rfl, hc5, hm5⟩ := hb3.open
  have D0 := Lib.hid (C0.out.keep hx3); clear C0 c00 c01 c02 c03
  have hE3 := hE2.trans hx3; clear hE2 hx3
  have HB3 := Lib.hid hb3; clear hb3
  obtain ⟨c00, c01, c02, c03, -, -, -, -⟩ := D0.out.four
  go_wp2_with fail
  -- x, f
  refine (write_ok (S := No) _ _ d i _ b (H.out.keep hE3) (HB.out.keep hE3) No.lt).mono ?_
  rintro e w4 ⟨v4, rfl, hd4, hx4⟩
  generalize hX : writeD d i b = X at *
  have HX := Lib.hid hX; clear hX
  obtain ⟨x, xe⟩ := X
  obtain ⟨a6, c6, a7, c7, rfl, -, -, -, -, -, -⟩ := hd4.open
  have hx5 := hx4.alloc (.cells (dkCells a6 c6 a7 c7 x).toArray 25)
  have BX := Lib.hid (Box.new w4 (dkCells a6 c6 a7 c7 x) 25)
  have HDX := Lib.hid (hd4.keep ((Ext.refl w4).alloc (.cells (dkCells a6 c6 a7 c7 x).toArray 25)))
  have E0 := Lib.hid (D0.out.keep hx5); clear D0 c00 c01 c02 c03
  have HB5 := Lib.hid (HB3.out.keep hx5); clear HB3
  have hE5 := hE3.trans hx5; clear hE3 hx4 hx5 hd4
  go_upto_region 7 with fail
  generalize w4.alloc (.cells (dkCells a6 c6 a7 c7 x).toArray 25) = w5 at *
  generalize w4.heap.size = nX at *
  by_cases hye : ye = 0
  case neg =>
    have q : (ye != 0) = true := by simpa using hye
    clear hye
    go_wp2_with fail
    go_ret
    exact ⟨rfl, hE5⟩
  subst hye
  by_cases hxe : xe = 0
  case neg =>
    have q : (xe != 0) = true := by simpa using hxe
    clear hxe
    go_wp2_with fail
    go_ret
    exact ⟨rfl, hE5⟩
  subst hxe
  obtain ⟨hrd, hhj, ey0⟩ := read_ok_iff HY.out
  obtain ⟨-, hhi, hlb, hpl, ex, hrx⟩ := write_facts HX.out
  have EY0 := Lib.hid ey0; clear ey0
  have EX := Lib.hid ex; clear ex
  have HHI := Lib.hid hhi; clear hhi
  have HHJ := Lib.hid hhj; clear hhj
  have HRX := Lib.hid hrx; clear hrx
  have HRD := Lib.hid hrd; clear hrd
  have hxj : Hid (hasD x j = true) := Lib.hid (by rw [EX.out]; exact HHJ.out)
  have hxi : Hid (hasD x i = true) := Lib.hid (by rw [EX.out]; exact HHI.out)
  have hmine : Hid (readL x i = padS b) := Lib.hid (by rw [EX.out, readL_snoc, if_pos rfl])
  have hafter : Hid (i ≠ j → readL x j = y0) := Lib.hid (fun hne => by rw [EX.out, readL_snoc, if_neg hne, EY0.out])
  obtain ⟨d0, d1, d2, d3, -, -, -, -⟩ := BX.out.four
  go_wp2_with fail
  -- after, g
  have k0 := read_ok w5 _ x j HDX.out
  rw [read_yes HRX.out hxj.out] at k0
  refine k0.mono ?_
  clear k0
  rintro e w6 ⟨v6, rfl, hb6, hx6⟩
  generalize hya : readL x j = ya at *
  have HA : Hid (i ≠ j → ya = y0) := hafter
  clear hya hafter
  obtain ⟨a8, c8, rfl, hc8, hm8⟩ := hb6.open
  have F0 := Lib.hid (E0.out.keep hx6); clear E0
  have FX := Lib.hid (BX.out.keep hx6); clear BX d0 d1 d2 d3
  have HFX := Lib.hid (HDX.out.keep hx6); clear HDX
  have HB6 := Lib.hid (HB5.out.keep hx6); clear HB5
  have hE6 := hE5.trans hx6; clear hE5 hx6
  have HA6 := Lib.hid hb6; clear hb6
  obtain ⟨d0, d1, d2, d3, -, -, -, -⟩ := FX.out.four
  go_wp2_with fail
  -- mine, h
  have k0 := read_ok w6 _ x i HFX.out
  rw [read_yes HRX.out hxi.out, hmine.out] at k0
  refine k0.mono ?_
  clear k0
  rintro e w7 ⟨v7, rfl, hb7, hx7⟩
  have hb7' : Bs No w7 v7 (padS b) := hb7
  obtain ⟨a9, c9, rfl, hc9, hm9⟩ := hb7'.open
  have hpad : (padS b).length = 128 := padS_length (by omega)
  have G0 := Lib.hid (F0.out.keep hx7); clear F0
  have GX := Lib.hid (FX.out.keep hx7); clear FX d0 d1 d2 d3
  have HGX := Lib.hid (HFX.out.keep hx7); clear HFX
  have HB7 := Lib.hid (HB6.out.keep hx7); clear HB6
  have HA7 := Lib.hid (HA6.out.keep hx7); clear HA6
  have hE7 := hE6.trans hx7; clear hE6 hx7
  have hpre : Bs No w7 (.slice a9 b.length c9) b := by
    have := hb7'.pre b.length c9 (by omega) (by omega) (by unfold maxLen; omega)
    rwa [padS_take] at this
  have kk1 := fun nq => conv_strN hpre nq
  have kk2 := fun nq => conv_strN (HB.out.keep hE7) nq
  have kk3 := fun nq => conv_strN HB7.out nq
  have kk4 := fun nq => conv_strN HA7.out nq
  have q1 : (((padS b).length : Int) != 128) = false := by simp [hpad]
  have q2 : (b.length : Int) ≤ c9 := by omega
  have q3 : (0 : Int) ≤ b.length := by omega
  have q4 : b.length ≤ c9 := by omega
  clear hpre hb7 hb7' hc9 hpad
  generalize (padS b).length = np at *
  go_upto_region 11 with fail
  go_cut [10, 106] (fun _ t wx => t = .bool false ∧ ∃ nq, wx = w7.drewN nq)
  case first =>
    by_cases hij : i = j
    · have q5 : (i != j) = false := by simpa using hij
      clear hij
      go_quiet (fail)
      all_goals (go_wp2_with fail; go_meet; exact ⟨rfl, _, rfl⟩)
    · have q5 : (i != j) = true := by simpa using hij
      have := HA.out hij
      subst this
      clear hij
      go_quiet (fail)
      all_goals (go_wp2_with fail; go_meet; exact ⟨rfl, _, rfl⟩)
  case rest =>
    obtain ⟨rfl, nq, rfl⟩ := hcut
    generalize hw8 : w7.drewN nq = w8 at *
    have hx8 : Ext w7 w8 := hw8 ▸ Ext.drewN w7 nq
    clear hw8 kk1 kk2 kk3 kk4 q1 q2 q3 q4 hl' hlc' HA HB HB7 HA7 hc8 hm8 hc5 hm5 hc3 hm3 hmine hxi EY0
    have I0 := Lib.hid (G0.out.keep hx8); clear G0
    have IX := Lib.hid (GX.out.keep hx8); clear GX
    have HIX := Lib.hid (HGX.out.keep hx8); clear HGX
    have hE8 := hE7.trans hx8; clear hE7 hx8
    obtain ⟨d0, d1, d2, d3, -, -, -, -⟩ := IX.out.four
    go_wp2_with fail
    -- y, i
    have k0 := write_err (b := c) HRX.out hxj.out (by omega)
    have k1 := write_ok (S := No) w8 _ x j _ c HIX.out (HC.out.keep hE8) No.lt
    generalize hYY : writeD x j c = YY at *
    have HYY := Lib.hid hYY; clear hYY
    obtain ⟨y, ye⟩ := YY
    have K0 := Lib.hid k0; clear k0
    refine k1.mono ?_
    clear k1
    rintro e w9 ⟨v9, rfl, hd9, hx9⟩
    obtain ⟨a10, c10, a11, c11, rfl, -, -, -, -, -, -⟩ := hd9.open
    have hx10 := hx9.alloc (.cells (dkCells a10 c10 a11 c11 y).toArray 25)
    have BY := Lib.hid (Box.new w9 (dkCells a10 c10 a11 c11 y) 25)
    have HDY := Lib.hid (hd9.keep ((Ext.refl w9).alloc (.cells (dkCells a10 c10 a11 c11 y).toArray 25)))
    have J0 := Lib.hid (I0.out.keep hx10); clear I0 IX HIX d0 d1 d2 d3
    have hE10 := hE8.trans hx10; clear hE8 hx9 hx10 hd9
    go_upto_region 14 with fail
    generalize w9.alloc (.cells (dkCells a10 c10 a11 c11 y).toArray 25) = w10 at *
    generalize w9.heap.size = nY at *
    by_cases hye : ye = 0
    case neg =>
      have h2 : ye = 2 := by have := K0.out; omega
      subst h2
      clear hye
      go_wp2_with fail
      go_ret
      exact ⟨rfl, hE10⟩
    subst hye
    clear K0
    obtain ⟨-, -, hlc2, hplx, ey, hry⟩ := write_facts HYY.out
    have EY := Lib.hid ey; clear ey
    have HRY := Lib.hid hry; clear hry
    obtain ⟨d0, d1, d2, d3, -, -, -, -⟩ := BY.out.four
    go_wp2_with fail
    -- z, j
    have k0 := sync_err HRY.out
    have k1 := sync_ok (S := No) w10 _ y HDY.out No.lt
    generalize hZZ : syncD y = ZZ at *
    have HZZ := Lib.hid hZZ; clear hZZ
    obtain ⟨z, ze⟩ := ZZ
    have K0 := Lib.hid k0; clear k0
    refine k1.mono ?_
    clear k1
    rintro e w11 ⟨v11, rfl, hd11, hx11⟩
    obtain ⟨a12, c12, a13, c13, rfl, -, -, -, -, -, -⟩ := hd11.open
    have hx12 := hx11.alloc (.cells (dkCells a12 c12 a13 c13 z).toArray 25)
    have BZ := Lib.hid (Box.new w11 (dkCells a12 c12 a13 c13 z) 25)
    have HDZ := Lib.hid (hd11.keep ((Ext.refl w11).alloc (.cells (dkCells a12 c12 a13 c13 z).toArray 25)))
    have L0 := Lib.hid (J0.out.keep hx12); clear J0
    have LY := Lib.hid (BY.out.keep hx12); clear BY d0 d1 d2 d3
    have HLY := Lib.hid (HDY.out.keep hx12); clear HDY
    have hE12 := hE10.trans hx12; clear hE10 hx11 hx12 hd11
    go_upto_region 17 with fail
    generalize w11.alloc (.cells (dkCells a12 c12 a13 c13 z).toArray 25) = w12 at *
    generalize w11.heap.size = nZ at *
    obtain ⟨e0, e1, e2, e3, -, -, -, -⟩ := BZ.out.four
    by_cases hze : ze = 0
    case neg =>
      have h2 : ze = 410 ∧ z.stopped = true := by rcases K0.out with h | h; exact absurd h hze; exact h
      obtain ⟨rfl, h3⟩ := h2
      clear hze
      rw [h3] at e3
      go_wp2_with fail
      go_ret
      exact ⟨rfl, hE12⟩
    subst hze
    clear K0
    obtain ⟨ez, ezp, hrz⟩ := sync_facts HRY.out HZZ.out
    have EZ := Lib.hid ez; clear ez
    have EZP := Lib.hid ezp; clear ezp
    have HRZ := Lib.hid hrz; clear hrz
    have hys : y.sectors = d.sectors := by rw [EY.out, EX.out]
    have HYS := Lib.hid hys; clear hys
    have hzs : z.sectors.length = d.sectors.length := by rw [EZ.out, perfL_length, HYS.out]
    have HZS := Lib.hid hzs; clear hzs
    have HREAD : Hid (∀ k : Nat, k < d.sectors.length → hasD y k = true ∧ hasD z k = true ∧ readL y k = readL z k) := Lib.hid fun k hk => by
      refine ⟨?_, ?_, ?_⟩
      · rw [hasD_iff, HYS.out]; omega
      · rw [hasD_iff, HZS.out]; omega
      · rw [readL_perf y k (by rw [HYS.out]; exact hk) (fun x hx => (ok_at ((runsD_iff y).1 HRY.out).1 x hx).1)]
        rw [readL_perf z k (by rw [HZS.out]; exact hk) (fun x hx => (ok_at ((runsD_iff z).1 HRZ.out).1 x hx).1)]
        rw [EZP.out, EZ.out]; rfl
    clear e0 e1 e2 e3
    obtain ⟨c00, c01, c02, c03, -, -, -, -⟩ := L0.out.four
    go_wp2_with fail
    clear c00 c01 c02 c03
    have hdl : d.sectors.length ≤ 4096 := (okD_bounds ((runsD_iff d).1 HRD.out).1).2.1
    go_loopw [23] (fun jj wr => ∃ k : Nat, k ≤ d.sectors.length ∧ jj = .int .i64 k ∧ Ext w12 wr) (fun jj _ => d.sectors.length - (intOf jj).toNat)
    case atStart => exact ⟨0, Nat.zero_le _, rfl, Ext.refl _⟩
    case round =>
      obtain ⟨k, hk, rfl, hx13⟩ := hrel
      have hE13 := hE12.trans hx13
      have N0 := Lib.hid (L0.out.keep hx13)
      have NY := Lib.hid (LY.out.keep hx13)
      have NZ := Lib.hid (BZ.out.keep hx13)
      have HNY := Lib.hid (HLY.out.keep hx13)
      have HNZ := Lib.hid (HDZ.out.keep hx13)
      obtain ⟨c00, c01, c02, c03, -, -, -, -⟩ := N0.out.four
      obtain ⟨e0, e1, e2, e3, -, -, -, -⟩ := NZ.out.four
      by_cases hlt : k < d.sectors.length
      · obtain ⟨d0, d1, d2, d3, -, -, -, -⟩ := NY.out.four
        obtain ⟨r1, r2, r3⟩ := HREAD.out k hlt
        have R1 := Lib.hid r1; clear r1
        have R2 := Lib.hid r2; clear r2
        have R3 := Lib.hid r3; clear r3
        have hi1 : (k : Int) < d.sectors.length := by omega
        have hi0 : (0 : Int) ≤ k := by omega
        go_wp2_with fail
        have k0 := read_ok _ _ y k HNY.out
        rw [read_yes HRY.out R1.out, R3.out] at k0
        refine k0.mono ?_
        clear k0
        rintro e w14 ⟨v14, rfl, hb14, hx14⟩
        generalize hrr : readL z k = rr at *
        have HRR := Lib.hid hrr; clear hrr
        obtain ⟨a14, c14, rfl, hc14, hm14⟩ := hb14.open
        clear c00 c01 c02 c03 d0 d1 d2 d3 e0 e1 e2 e3 hc14 hm14
        obtain ⟨e0, e1, e2, e3, -, -, -, -⟩ := (NZ.out.keep hx14).four
        have HB14 := Lib.hid hb14; clear hb14
        go_wp2_with fail
        have k0 := read_ok w14 _ z k (HNZ.out.keep hx14)
        rw [read_yes HRZ.out R2.out] at k0
        have k1 : Calls Try.prog 28 #[.agg #[.slice a12 z.sectors.length c12, .slice a13 z.pending.length c13, .int .i64 z.left, .bool z.stopped], .int .i64 k] w14 (BytesErr No w14 (rr, 0)) := HRR.out ▸ k0
        refine k1.mono ?_
        clear k0 k1
        rintro e w15 ⟨v15, rfl, hb15, hx15⟩
        have hb15' : Bs No w15 v15 rr := hb15
        obtain ⟨a15, c15, rfl, hc15, hm15⟩ := hb15'.open
        have kk1 := conv_str hb15'
        have kk2 := conv_str (HB14.out.keep hx15)
        have hx16 := (hx13.trans hx14).trans hx15
        clear hb15 hb15' hc15 hm15 e0 e1 e2 e3 hx15 hx14 hx13
        go_wp2_with fail
        go_roundw
        case rel => exact ⟨k + 1, by omega, by go_num, hx16⟩
        case measure => simp [intOf]; omega
      · obtain rfl : k = d.sectors.length := by omega
        have HX13 := Lib.hid hx13; clear hx13
        have l0 : z.pending.length = 0 := by rw [EZP.out]; rfl
        rw [l0] at e1
        have HC : Hid (∀ W, Disk No W (.agg #[.slice a12 z.sectors.length c12, .slice a13 z.pending.length c13, .int .i64 z.left, .bool z.stopped]) z → Disk No W (.agg #[.slice a12 z.sectors.length c12, .slice a13 0 c13, .int .i64 z.left, .bool z.stopped]) z) := Lib.hid fun W h => by rw [l0] at h; exact h
        have HCZ := Lib.hid (chk_yes ((runsD_iff z).1 HRZ.out).1)
        clear l0
        go_wp2_with fail
        have k0 := check_ok _ _ z (HC.out _ HNZ.out)
        rw [HCZ.out] at k0
        refine k0.mono ?_
        clear k0
        rintro e w14 ⟨rfl, hx14⟩
        go_wp2_with fail
        go_ret
        exact ⟨rfl, hE13.trans hx14⟩
end Go.Proofs.Ytpciankfpagnhaa
