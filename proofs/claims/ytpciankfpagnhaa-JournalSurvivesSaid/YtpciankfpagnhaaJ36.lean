/- The law JournalSurvives returns true on every input. -/
import Derived.Test.YtpciankfpagnhaaJ36b
namespace Go.Proofs.Ytpciankfpagnhaa
open Go.RowKit

/-- What is known of a script that came in. -/
def ReachCrs (l : List Cr) : Prop := ∀ x ∈ l, ReachB x.records
/-- What holds between two rounds: the disk in the box, what is kept. -/
def VInv (w : World) (g5 : Nat) (n : Nat) (kv iv : Value) (wq : World) : Prop :=
  ∃ (i : Nat) (d : Dk) (K : List (List UInt8)) (a b ak : Option Addr) (c e ck : Nat), i ≤ n ∧ iv = .int .i64 (i : Int) ∧ kv = .slice ak K.length ck ∧ K.length ≤ ck ∧ ck ≤ 9223372036854775807 ∧ Ext w wq ∧
    Box wq g5 [.slice a d.sectors.length c, .slice b d.pending.length e, .int .i64 d.left, .bool d.stopped] ∧ Disk (fun k => k = g5) wq (.agg #[.slice a d.sectors.length c, .slice b d.pending.length e, .int .i64 d.left, .bool d.stopped]) d ∧ Bss (fun k => k = g5) wq (.slice ak K.length ck) K ∧
    Ready d ∧ d.left = -1 ∧ recs d.sectors = K ∧ genMax d.sectors ≤ 1 + i

theorem VInv.mk' {w : World} {g5 n : Nat} {Y : Dk} {K' : List (List UInt8)} {a b ak : Option Addr} {c e ck : Nat} {wq : World} {i : Nat} (hi : i < n) (hE : Ext w wq)
    (hb : Box wq g5 [.slice a (restartD Y).sectors.length c, .slice b (restartD Y).pending.length e, .int .i64 (restartD Y).left, .bool (restartD Y).stopped]) (hd : Disk (fun k => k = g5) wq (.agg #[.slice a (restartD Y).sectors.length c, .slice b (restartD Y).pending.length e, .int .i64 (restartD Y).left, .bool (restartD Y).stopped]) (restartD Y))
    (hk : Bss (fun k => k = g5) wq (.slice ak K'.length ck) K') (h1 : Ready (restartD Y)) (h2 : recs Y.sectors = K') (h3 : genMax Y.sectors ≤ 1 + (i + 1)) (h4 : K'.length ≤ ck) (h5 : ck ≤ 9223372036854775807) :
    VInv w g5 n (.slice ak K'.length ck) (.int .i64 ((i : Int) + 1)) wq := by
  have q : (i : Int) + 1 = ((i + 1 : Nat) : Int) := by rw [Int.natCast_add]; rfl
  rw [q]
  exact ⟨i + 1, restartD Y, K', a, b, ak, c, e, ck, hi, rfl, rfl, h4, h5, hE, hb, hd, hk, h1, rfl, h2, h3⟩
theorem u8_mod (x : UInt8) (m : Nat) : (x.toNat : Int) % (m : Int) = ((x.toNat % m : Nat) : Int) := by omega

set_option maxRecDepth 100000 in
set_option maxHeartbeats 8000000 in
theorem journalSurvives_ok (w : World) (n : UInt8) (vs : Value) (l : List Cr) (h : Crs No w vs l) (hr : ReachCrs l) :
    Calls Try.prog 16 #[.int .u8 (n.toNat : Int), vs] w fun e w' => e = .returned (.bool true) ∧ Ext w w' := by
  obtain ⟨aS, cS, rfl, hcS, hmS⟩ := h.open
  have HC := Lib.hid (Sl.more (S' := From w.heap.size) etCr h (fun k hk => .inr hk)); clear h
  have HR := Lib.hid hr; clear hr
  have hE0 := Ext.refl w
  have hn30 : (n.toNat : Int) % 30 = ((n.toNat % 30 : Nat) : Int) := u8_mod n 30
  have hn3 := n.toNat_lt
  obtain ⟨m, hm⟩ : ∃ m, n.toNat % 30 = m := ⟨_, rfl⟩
  rw [hm] at hn30
  have hm30 : m < 30 := by omega
  clear hm
  have hnw := newD_eq (n := m + 1) (by omega) (by omega)
  obtain ⟨t1, -, -, t4, t5, t6⟩ := new_ready (n := m + 1) (by omega) (by omega)
  generalize (newD ((m + 1 : Nat) : Int)).1 = D at *
  rw [Int.natCast_add] at hnw
  have HNW := Lib.hid hnw; clear hnw
  have HRD := Lib.hid (show Ready D ∧ D.left = -1 ∧ recs D.sectors = [] ∧ genMax D.sectors = 1 from ⟨t1, t4, t5, t6⟩); clear t1 t4 t5 t6
  go_enter Try.func16, Try.ntmps16
  go_wp2_with fail
  refine (sane42_ok w).mono ?_
  rintro e wa ⟨rfl, hx⟩
  have hE := hE0.trans hx; clear hE0 hx
  by_cases hlen : (8 : Int) < l.length
  · go_wp2_with fail
    go_ret
    exact ⟨rfl, hE⟩
  go_wp2_with fail
  have k0 := new_ok (S := No) wa ((m : Int) + ((1 : Nat) : Int)) No.lt
  rw [HNW.out] at k0
  refine k0.mono ?_
  clear k0
  rintro e wb ⟨v0, rfl, hd0, hx⟩
  obtain ⟨ad, cd, bd, ed, rfl, -, -, -, -, -, -⟩ := hd0.open
  have hy := (Ext.refl wb).alloc (.cells #[.slice ad D.sectors.length cd, .slice bd D.pending.length ed, .int .i64 D.left, .bool D.stopped] 25)
  have B5 := Lib.hid (Box.new wb [.slice ad D.sectors.length cd, .slice bd D.pending.length ed, .int .i64 D.left, .bool D.stopped] 25)
  have D5 := Lib.hid ((hd0.more (S' := fun k => k = wb.heap.size) (fun k hk => .inr (Nat.le_of_eq hk.symm))).keep hy)
  have hE2 := hE.trans (hx.trans hy)
  have hl5 : w.heap.size ≤ wb.heap.size := (hE.trans hx).size
  clear hE hx hy hd0
  go_upto_region 6 with fail
  generalize wb.alloc (.cells #[.slice ad D.sectors.length cd, .slice bd D.pending.length ed, .int .i64 D.left, .bool D.stopped] 25) = wc at *
  generalize wb.heap.size = g5 at *
  go_wp2_with fail
  go_loopw [7, 40] (VInv w g5 l.length) (fun _ iv _ => l.length - (intOf iv).toNat)
  case atStart => exact ⟨0, D, [], ad, bd, none, cd, ed, 0, Nat.zero_le _, rfl, rfl, Nat.le_refl _, by decide, hE2, B5.out, D5.out, Sl.nil _ _ _ _, HRD.out.1, HRD.out.2.1, HRD.out.2.2.1, by rw [HRD.out.2.2.2]; omega⟩
  case round =>
    clear B5 D5 hE2 HRD HNW
    obtain ⟨i, d, K, a5, b5, ak, c5, e5, ck, hi, rfl, rfl, hck, hcm, hE, hb5, hd5, hk5, hrd, hlf, hrc, hgm⟩ := hrel
    have HRDY := Lib.hid hrd; clear hrd
    have HRC := Lib.hid hrc; clear hrc
    have HLF := Lib.hid hlf; clear hlf
    have HGM := Lib.hid hgm; clear hgm
    have HB5 := Lib.hid hb5; clear hb5
    have HD5 := Lib.hid hd5; clear hd5
    have HK5 := Lib.hid hk5; clear hk5
    by_cases hlt : i < l.length
    case neg =>
      obtain rfl : i = l.length := by omega
      have hge : ¬ ((l.length : Int) < l.length) := by omega
      obtain ⟨q50, q51, q52, q53, -, -, -, -⟩ := HB5.out.four
      go_wp2_with fail
      have k0 := open_ok (S := fun k => k = g5) wr _ d HD5.out (fun k hk => by subst hk; exact HB5.out.lt)
      rw [HRDY.out.open] at k0
      refine k0.mono ?_
      clear k0 q50 q51 q52 q53
      rintro e w2 ⟨v0, rfl, hj0, hx⟩
      rw [HRC.out] at hj0
      generalize hx0 : ({ records := K, many := (d.sectors.length : Int), synced := (K.length : Int) } : Jn) = x at *
      have hxr : x.records = K := by rw [← hx0]
      clear hx0
      have HXR := Lib.hid hxr; clear hxr
      obtain ⟨ax, cx, rfl, -, -, hbx⟩ := hj0.open
      have hy := (Ext.refl w2).alloc (.cells #[.slice ax x.records.length cx, .int .i64 x.many, .int .i64 x.synced] 55)
      have B := Lib.hid (Box.new w2 [.slice ax x.records.length cx, .int .i64 x.many, .int .i64 x.synced] 55)
      have HBX := Lib.hid (Bss.keep hbx hy)
      have HK := Lib.hid (Bss.keep HK5.out (hx.trans hy))
      have hE2 := hE.trans (hx.trans hy)
      clear hx hy hj0 hbx
      go_upto_region 45 with fail
      generalize w2.alloc (.cells #[.slice ax x.records.length cx, .int .i64 x.many, .int .i64 x.synced] 55) = w3 at *
      generalize w2.heap.size = g21 at *
      obtain ⟨q0, q1, q2, -, -, -⟩ := B.out.three
      go_wp2_with fail
      have k0 := sameRecords_ok w3 _ _ x.records K HBX.out HK.out
      rw [HXR.out, decide_eq_true rfl] at k0
      rw [HXR.out]
      refine k0.mono ?_
      clear k0
      rintro e w4 ⟨rfl, mm, rfl⟩
      go_wp2_with fail
      go_ret
      exact ⟨rfl, hE2.trans (Ext.drewN _ _)⟩
    have hgl : genMax d.sectors < 4294967296 := by have := HGM.out; omega
    obtain ⟨bS, oS, vR, rfl, hbS, s0, s1, s2, hvR⟩ := Crs.elem (Sl.keepM etCr HC.out (hE.mem _)) hlt
    have hrl := HR.out l[i] (List.getElem_mem hlt)
    generalize l[i] = cr at *
    have hlfm : (cr.left.toNat : Int) % 40 = ((cr.left.toNat % 40 : Nat) : Int) := u8_mod cr.left 40
    obtain ⟨lm, hlm⟩ : ∃ lm, cr.left.toNat % 40 = lm := ⟨_, rfl⟩
    rw [hlm] at hlfm
    have hlm40 : lm ≤ 65536 := by omega
    have hlm41 : lm < 40 := by omega
    clear hlm
    obtain ⟨L, T, d', Y, ye, K', z1, z2, z3, z4, z5, z6, z7, z8, z9, z10, z11, z12, z13⟩ := survive1 HRDY.out HLF.out hgl cr.records cr.stop lm hlm40
    rw [HRC.out] at z3
    have Z1 := Lib.hid z1; clear z1
    have Z2 := Lib.hid z2; clear z2
    have Z3 := Lib.hid z3; clear z3
    have Z4 := Lib.hid z4; clear z4
    have Z5 := Lib.hid z5; clear z5
    have Z6 := Lib.hid z6; clear z6
    have Z7 := Lib.hid z7; clear z7
    have Z8 := Lib.hid z8; clear z8
    have Z9 := Lib.hid z9; clear z9
    have Z10 := Lib.hid z10; clear z10
    have Z11 := Lib.hid z11; clear z11
    have Z12 := Lib.hid z12; clear z12
    have Z13 := Lib.hid z13; clear z13
    obtain ⟨R, st, lf⟩ := cr
    simp only at *
    obtain ⟨aR, cR, rfl, hcR, hmR⟩ := hvR.open
    have HVR := Lib.hid hvR; clear hvR
    have HRL := Lib.hid hrl; clear hrl
    have hii : (i : Int) < l.length := by omega
    have hi0 : (0 : Int) ≤ i := by omega
    have hsz5 := HB5.out.lt
    have n95 : wr.heap.size ≠ g5 := by omega
    have hwr := hE.size
    -- the box of the writing
    have hy := (Ext.refl wr).alloc (.cells #[.slice aR R.length cR, .bool st, .int .u8 (lf.toNat : Int)] 73)
    have HB9 := Lib.hid (Box.new wr [.slice aR R.length cR, .bool st, .int .u8 (lf.toNat : Int)] 73)
    replace HB5 := Lib.hid (HB5.out.keep hy)
    replace HD5 := Lib.hid ((HD5.out.more (S' := fun k => k = g5 ∨ k = wr.heap.size) (fun k hk => by rcases hk with hk | hk; exact .inl hk; exact .inr (Nat.le_of_eq hk.symm))).keep hy)
    replace HK5 := Lib.hid (Bss.keep (HK5.out.more etBs (S' := fun k => k = g5 ∨ k = wr.heap.size) (fun k hk => by rcases hk with hk | hk; exact .inl hk; exact .inr (Nat.le_of_eq hk.symm))) hy)
    replace HVR := Lib.hid (Bss.keep HVR.out hy)
    have hE1 := hE.trans hy; clear hE hy
    go_upto_region 12 with fail
    generalize wr.alloc (.cells #[.slice aR R.length cR, .bool st, .int .u8 (lf.toNat : Int)] 73) = w1 at *
    generalize wr.heap.size = g9 at *
    obtain ⟨q50, q51, q52, q53, -, -, -, -⟩ := HB5.out.four
    obtain ⟨q90, q91, q92, -, -, -⟩ := HB9.out.three
    go_wp2_with fail
    have k0 := few42_ok w1 _ _ d R HD5.out HVR.out HRL.out
    refine k0.mono ?_
    clear k0
    rintro e w2 ⟨rfl, hx⟩
    clear q50 q51 q52 q53 q90 q91 q92
    replace HB5 := Lib.hid (HB5.out.keep hx)
    replace HB9 := Lib.hid (HB9.out.keep hx)
    replace HD5 := Lib.hid (HD5.out.keep hx)
    replace HK5 := Lib.hid (Bss.keep HK5.out hx)
    replace HVR := Lib.hid (Bss.keep HVR.out hx)
    have hE2 := hE1.trans hx; clear hE1
    clear hx
    generalize few42 d R = bf
    cases bf
    · go_wp2_with fail
      go_ret
      exact ⟨rfl, hE2⟩
    obtain ⟨q50, q51, q52, q53, -, -, -, -⟩ := HB5.out.four
    go_wp2_with fail
    have k0 := open_ok (S := fun k => k = g5 ∨ k = g9) w2 _ d HD5.out (fun k hk => by rcases hk with rfl | rfl; exact HB5.out.lt; exact HB9.out.lt)
    rw [Z1.out] at k0
    refine k0.mono ?_
    clear k0 q50 q51 q52 q53
    rintro e w3 ⟨v0, rfl, hj0, hx⟩
    obtain ⟨aL, cL, rfl, -, -, -⟩ := hj0.open
    have hy := (Ext.refl w3).alloc (.cells #[.slice aL L.records.length cL, .int .i64 L.many, .int .i64 L.synced] 55)
    have HB10 := Lib.hid (Box.new w3 [.slice aL L.records.length cL, .int .i64 L.many, .int .i64 L.synced] 55)
    have hmr : ∀ k, Tri g5 g9 w3.heap.size k → (k = g5 ∨ k = g9) ∨ w3.heap.size ≤ k := fun k hk => by rcases hk with hk | hk | hk; exact .inl (.inl hk); exact .inl (.inr hk); exact .inr (Nat.le_of_eq hk.symm)
    have HJ10 := Lib.hid ((hj0.more hmr).keep hy)
    have n10 : w3.heap.size ≠ g5 ∧ w3.heap.size ≠ g9 := by have h1 := (HB5.out.keep hx).lt; have h2 := (HB9.out.keep hx).lt; omega
    have l10 : w.heap.size ≤ w3.heap.size := (hE2.trans hx).size
    replace HB5 := Lib.hid ((HB5.out.keep hx).keep hy)
    replace HB9 := Lib.hid ((HB9.out.keep hx).keep hy)
    replace HD5 := Lib.hid (((HD5.out.keep hx).more hmr).keep hy)
    replace HK5 := Lib.hid (Bss.keep ((Bss.keep HK5.out hx).more etBs hmr) hy)
    replace HVR := Lib.hid (Bss.keep HVR.out (hx.trans hy))
    have hE3 := hE2.trans (hx.trans hy); clear hE2
    clear hx hy hj0 hmr
    go_upto_region 15 with fail
    generalize w3.alloc (.cells #[.slice aL L.records.length cL, .int .i64 L.many, .int .i64 L.synced] 55) = w4 at *
    generalize w3.heap.size = g10 at *
    have hsy : (L.synced != (L.records.length : Int)) = false := by rw [Z4.out]; simp
    obtain ⟨vL, eL, hbL⟩ := HJ10.out
    cases eL
    obtain ⟨q0, q1, q2, -, -, -⟩ := HB10.out.three
    go_wp2_with fail
    have k0 := sameRecords_ok w4 _ _ L.records K hbL HK5.out
    rw [decide_eq_true Z3.out] at k0
    refine k0.mono ?_
    clear k0 q0 q1 q2 hbL
    rintro e w5 ⟨rfl, mm, rfl⟩
    have hx := Ext.drewN w4 mm
    replace HB5 := Lib.hid (HB5.out.keep hx)
    replace HB9 := Lib.hid (HB9.out.keep hx)
    replace HD5 := Lib.hid (HD5.out.keep hx)
    replace HK5 := Lib.hid (Bss.keep HK5.out hx)
    replace HVR := Lib.hid (Bss.keep HVR.out hx)
    have hE4 := hE3.trans hx; clear hE3
    replace HB10 := Lib.hid (HB10.out.keep hx)
    replace HJ10 := Lib.hid (HJ10.out.keep hx)
    clear hx
    generalize w4.drewN mm = w6 at *
    obtain ⟨q90, q91, q92, -, -, -⟩ := HB9.out.three
    go_wp2_with fail
    clear q90 q91 q92
    have HRT : Hid (Bss (Tri g5 g9 g10) w6 (.slice aR R.length cR) R) := Lib.hid (HVR.out.more etBs (fun k hk => by rcases hk with rfl | rfl | rfl; exact .inl (by assumption); exact .inl (by assumption); exact .inl (by assumption)))
    go_loopw [74] (RInv (Tri g5 g9 g10) w w6 g10 L R) (fun iv _ => R.length - (intOf iv).toNat)
    case atStart => exact ⟨0, aL, cL, Nat.zero_le _, rfl, hE4, Mem.refl _ _, HB10.out, HJ10.out⟩
    case round =>
      clear HB10 HJ10 hE4
      obtain ⟨j, aj, cj, hj, rfl, hE5, hm5, hb10, hj10⟩ := hrel
      have hnx := (addJ_nice (R.take j) Z2.out).1
      by_cases hjl : j < R.length
      case pos =>
        have hmt := hm5.mono (S' := Tri g5 g9 g10) (fun k hk => .inr (.inr hk))
        obtain ⟨bR, oR, vd, rfl, hbR, r1, hv⟩ := Bss.elem (HRT.out.keepM etBs hmt) hjl
        have hbl := HRL.out R[j] (List.getElem_mem hjl)
        have hts := addJ_snoc L (R.take j) R[j]
        rw [← List.take_succ_eq_append_getElem hjl] at hts
        have HT := Lib.hid hts; clear hts
        generalize R[j] = b at *
        obtain ⟨ab, cb, rfl, -, -⟩ := hv.open
        generalize hx : addJ L (R.take j) = x at *
        have HX := Lib.hid hx; clear hx
        have hsz := hb10.lt
        have h5lt : g5 < wr.heap.size := Nat.lt_of_lt_of_le HB5.out.lt hm5.size
        have h9lt : g9 < wr.heap.size := Nat.lt_of_lt_of_le HB9.out.lt hm5.size
        have k0 := append_ok (S := Tri g5 g9 g10) wr _ _ x b hj10 hv hnx.reach hbl (fun h => hnx.fits h) hnx.few (fun k hk => by rcases hk with rfl | rfl | rfl <;> assumption)
        have hadd : add1 x b = if (appendJ x b).2 = 0 then (appendJ x b).1 else x := rfl
        obtain ⟨Y0, hY⟩ : ∃ Y0, appendJ x b = Y0 := ⟨_, rfl⟩
        rw [hY] at k0 hadd
        obtain ⟨y, xe⟩ := Y0
        simp only at hadd
        have HA := Lib.hid hadd; clear hadd hY
        have K0 := Lib.hid k0; clear k0
        have HB10 := Lib.hid hb10
        have HJ10 := Lib.hid hj10; clear hj10
        obtain ⟨q0, q1, q2, f0, f1, f2⟩ := hb10.three
        have hjj : (j : Int) < R.length := by omega
        have hj0 : (0 : Int) ≤ j := by omega
        clear hb10 hv hnx hmt
        go_wp2_with fail
        refine K0.out.mono ?_
        rintro e w7 ⟨v2, rfl, hj2, hx2⟩
        obtain ⟨a2, c2, rfl, -, -, -⟩ := hj2.open
        clear q0 q1 q2 f0 f1 f2
        have hy := (Ext.refl w7).alloc (.cells #[.slice a2 y.records.length c2, .int .i64 y.many, .int .i64 y.synced] 55)
        have hx3 := hx2.trans hy
        have HB14 := Lib.hid (Box.new w7 [.slice a2 y.records.length c2, .int .i64 y.many, .int .i64 y.synced] 55)
        have HJ2 := Lib.hid (hj2.keep hy)
        go_upto_region 21 with fail
        generalize w7.alloc (.cells #[.slice a2 y.records.length c2, .int .i64 y.many, .int .i64 y.synced] 55) = w8 at *
        generalize w7.heap.size = g14 at *
        have hE6 := hE5.trans hx3
        have hm6 := hm5.trans (hx3.mem _)
        have hb10 := HB10.out.keep hx3
        have hj3 := HJ10.out.keep hx3
        clear hx2 hx3 hy hj2 HB10 HJ10 K0 hE5 hm5
        by_cases hye : xe = 0
        · have hye1 : (xe == 0) = true := by simp [hye]
          have hadd := HA.out
          rw [if_pos hye] at hadd
          obtain ⟨q0, q1, q2, f0, f1, f2⟩ := hb10.three
          obtain ⟨c70, c71, c72, -, -, -⟩ := HB14.out.three
          have HB10 := Lib.hid hb10; clear hb10
          have HAD := Lib.hid hadd; clear hadd HA hj3
          go_wp2_with fail
          generalize hWa : World.setCell (World.setCell (World.setCell w8 ⟨g10, 0, none⟩ _) ⟨g10, 1, none⟩ _) ⟨g10, 2, none⟩ _ = wx
          obtain ⟨hba, hoa⟩ := box_set3 HB10.out hWa
          exact ⟨RInv.mk' hjl (by rw [HT.out, HAD.out]) (hoa.ext hE6 l10) (hm6.trans (hoa.mem rfl)) hba (HJ2.out.keepM (hoa.mem (.inr (.inr rfl)))), AInv.less hjl⟩
        · have hye1 : (xe == 0) = false := by simp [hye]
          have hadd := HA.out
          rw [if_neg hye] at hadd
          have HB10 := Lib.hid hb10; clear hb10
          have HJ3 := Lib.hid hj3; clear hj3
          have HAD := Lib.hid hadd; clear hadd HA
          go_wp2_with fail
          exact ⟨RInv.mk' hjl (by rw [HT.out, HAD.out]) hE6 hm6 HB10.out HJ3.out, AInv.less hjl⟩
      obtain rfl : j = R.length := by omega
      rw [List.take_length] at hb10 hj10 hnx
      obtain ⟨A, hA⟩ : ∃ A, addJ L R = A := ⟨_, rfl⟩
      rw [hA] at hb10 hj10 hnx
      have HAA := Lib.hid hA
      have hmt := hm5.mono (S' := Tri g5 g9 g10) (fun k hk => .inr (.inr hk))
      replace HB5 := Lib.hid (HB5.out.keepM hm5 n10.1.symm)
      replace HB9 := Lib.hid (HB9.out.keepM hm5 n10.2.symm)
      replace HD5 := Lib.hid (HD5.out.keepM hmt)
      replace HK5 := Lib.hid (HK5.out.keepM etBs hmt)
      have HB10 := Lib.hid hb10; clear hb10
      have HJ10 := Lib.hid hj10; clear hj10
      clear HVR HRT hm5 hmt hnx
      rw [hA] at Z5 Z6 Z9 Z13
      clear hA
      have hge : ¬ ((R.length : Int) < R.length) := by omega
      have hAK : ¬ (A.records.length : Int) < K.length := by have := Z6.out; rw [Z3.out] at this; omega
      obtain ⟨q0, q1, q2, -, -, -⟩ := HB10.out.three
      obtain ⟨q90, q91, q92, -, -, -⟩ := HB9.out.three
      go_upto_region 26 with fail
      clear q0 q1 q2
      cases st
      case false =>
        have hd' := Z8.out rfl
        rw [← hd'] at HB5 HD5
        clear hd'
        go_upto_region 30 with fail
        clear q90 q91 q92
        obtain ⟨q0, q1, q2, -, -, -⟩ := HB10.out.three
        obtain ⟨q50, q51, q52, q53, -, -, -, -⟩ := HB5.out.four
        go_wp2_with fail
        have k0 := journalSync_ok (S := Tri g5 g9 g10) wr _ _ A d' HJ10.out HD5.out Z5.out.reach Z5.out.usedB (fun k hk => by rcases hk with rfl | rfl | rfl; exact HB5.out.lt; exact HB9.out.lt; exact HB10.out.lt)
        rw [Z9.out] at k0
        refine k0.mono ?_
        clear k0 q0 q1 q2 q50 q51 q52 q53
        rintro e w7 ⟨v1, v2, rfl, hjT, hdY, hx⟩
        obtain ⟨aT, cT, rfl, -, -, -⟩ := hjT.open
        obtain ⟨aY, cY, bY, eY, rfl, -, -, -, -, -, -⟩ := hdY.open
        have hy := ((Ext.refl w7).alloc (.cells #[.slice aT T.records.length cT, .int .i64 T.many, .int .i64 T.synced] 55)).alloc (.cells #[.slice aY Y.sectors.length cY, .slice bY Y.pending.length eY, .int .i64 Y.left, .bool Y.stopped] 25)
        have hx4 := hx.trans hy
        have B16 := Lib.hid ((Box.new w7 [.slice aT T.records.length cT, .int .i64 T.many, .int .i64 T.synced] 55).past (.cells #[.slice aY Y.sectors.length cY, .slice bY Y.pending.length eY, .int .i64 Y.left, .bool Y.stopped] 25))
        have B17 := Lib.hid (Box.at (w := w7.alloc (.cells #[.slice aT T.records.length cT, .int .i64 T.many, .int .i64 T.synced] 55)) (b := w7.heap.size + 1) (cs := [.slice aY Y.sectors.length cY, .slice bY Y.pending.length eY, .int .i64 Y.left, .bool Y.stopped]) (t := 25) (by simp))
        have DT := Lib.hid (hjT.keep hy)
        have DY := Lib.hid (hdY.keep hy)
        replace HB5 := Lib.hid (HB5.out.keep hx4)
        replace HB9 := Lib.hid (HB9.out.keep hx4)
        replace HB10 := Lib.hid (HB10.out.keep hx4)
        replace HJ10 := Lib.hid (HJ10.out.keep hx4)
        replace HK5 := Lib.hid (Bss.keep HK5.out hx4)
        have hE7 := hE5.trans hx4; clear hE5
        clear hx hy hx4 hjT hdY
        go_upto_region 31 with fail
        generalize (w7.alloc (.cells #[.slice aT T.records.length cT, .int .i64 T.many, .int .i64 T.synced] 55)).alloc (.cells #[.slice aY Y.sectors.length cY, .slice bY Y.pending.length eY, .int .i64 Y.left, .bool Y.stopped] 25) = w8 at *
        generalize w7.heap.size + 1 = g17 at *
        generalize w7.heap.size = g16 at *
        rcases Z13.out with ⟨hye, hTs, hTr, hK'⟩ | ⟨hye, hst, Z, hz1, hz2, hz3, hz4, hz5⟩
        case inl =>
          subst hye
          have hts : (T.synced != (A.records.length : Int)) = false := by rw [hTs]; simp
          obtain ⟨vA, eA, hbA⟩ := HJ10.out
          cases eA
          obtain ⟨_, _, eA2, hcA, hmA⟩ := hbA.open
          cases eA2
          obtain ⟨vT, eT, hbT⟩ := DT.out
          cases eT
          have HTR := Lib.hid hTr; clear hTr hTs
          obtain ⟨q160, q161, q162, -, -, -⟩ := B16.out.three
          obtain ⟨q0, q1, q2, -, -, -⟩ := HB10.out.three
          go_wp2_with fail
          have k0 := sameRecords_ok w8 _ _ T.records A.records hbT hbA
          rw [decide_eq_true HTR.out] at k0
          refine k0.mono ?_
          clear k0 q160 q161 q162 q0 q1 q2 hbT
          rintro e w9 ⟨rfl, mm, rfl⟩
          have hx := Ext.drewN w8 mm
          have HKP : Hid (Bss (Tri g5 g9 g10) (w8.drewN mm) (.slice aj K'.length cj) K') := by rw [hK']; exact Lib.hid (Bss.keep hbA hx)
          have HCK : Hid (K'.length ≤ cj ∧ cj ≤ 9223372036854775807) := by rw [hK']; exact Lib.hid ⟨hcA, hmA⟩
          have hAl : A.records.length = K'.length := by rw [hK']
          replace HB5 := Lib.hid (HB5.out.keep hx)
          replace HB10 := Lib.hid (HB10.out.keep hx)
          replace B17 := Lib.hid (B17.out.keep hx)
          replace DY := Lib.hid (DY.out.keep hx)
          have hE8 := hE7.trans hx; clear hE7
          clear hx hbA hcA hmA hK' HJ10 DT
          generalize w8.drewN mm = w9 at *
          rw [hAl] at HB10
          obtain ⟨q0, q1, q2, -, -, -⟩ := HB10.out.three
          obtain ⟨q170, q171, q172, q173, -, -, -, -⟩ := B17.out.four
          go_wp2_with fail
          have k0 := restart_ok (S := Tri g5 g9 g10) w9 _ Y DY.out
          refine k0.mono ?_
          clear k0 q170 q171 q172 q173
          rintro e wr1 ⟨vY, rfl, hdr, hx⟩
          obtain ⟨ar, cr', br, er, rfl, -, -, -, -, -, -⟩ := hdr.open
          have HB5' := Lib.hid (HB5.out.keep hx)
          have HKK := Lib.hid (Bss.keep HKP.out hx)
          have hE9 := hE8.trans hx
          obtain ⟨-, -, -, -, f50, f51, f52, f53⟩ := HB5'.out.four
          obtain ⟨q50, q51, q52, q53, -, -, -, -⟩ := HB5'.out.four
          clear hx
          go_wp2_with fail
          generalize hWa : World.setCell (World.setCell (World.setCell (World.setCell wr1 _ _) _ _) _ _) _ _ = wz
          obtain ⟨hbz, hoz⟩ := box_set4 HB5'.out hWa
          have htri : Tri g5 g9 g10 g5 := .inl rfl
          have hsub : ∀ k, k = g5 → Tri g5 g9 g10 k ∨ wz.heap.size ≤ k := fun k hk => .inl (.inl hk)
          exact ⟨VInv.mk' hlt (hoz.ext hE9 hl5) hbz ((hdr.keepM (hoz.mem htri)).more hsub) ((HKK.out.keepM etBs (hoz.mem htri)).more etBs hsub) Z10.out Z11.out (by have := Z12.out; have := HGM.out; omega) HCK.out.1 HCK.out.2, AInv.less hlt⟩
        case inr => cases hst
      case true =>
        obtain ⟨q50, q51, q52, q53, f50, f51, f52, f53⟩ := HB5.out.four
        go_wp2_with fail
        have k0 := stop_ok (S := Tri g5 g9 g10) wr _ d (lm : Int) HD5.out
        rw [Z7.out (by trivial)] at k0
        refine k0.mono ?_
        clear k0 q50 q51 q52 q53 f50 f51 f52 f53 q90 q91 q92
        rintro e w61 ⟨v6, rfl, hd6, hx⟩
        obtain ⟨a6, c6, b6, e6, rfl, -, -, -, -, -, -⟩ := hd6.open
        have HB5' := Lib.hid (HB5.out.keep hx); clear HB5
        obtain ⟨q50, q51, q52, q53, f50, f51, f52, f53⟩ := HB5'.out.four
        go_upto_region 28 with fail
        generalize hWa : World.setCell (World.setCell (World.setCell (World.setCell w61 _ _) _ _) _ _) _ _ = w62
        obtain ⟨hb5', ho5⟩ := box_set4 HB5'.out hWa
        have htri : Tri g5 g9 g10 g5 := .inl rfl
        have HB5 := Lib.hid hb5'
        have HD6 := Lib.hid (hd6.keepM (ho5.mem htri))
        replace HB9 := Lib.hid (ho5.box (HB9.out.keep hx) n95)
        replace HB10 := Lib.hid (ho5.box (HB10.out.keep hx) n10.1)
        replace HJ10 := Lib.hid ((HJ10.out.keep hx).keepM (ho5.mem htri))
        replace HK5 := Lib.hid ((Bss.keep HK5.out hx).keepM etBs (ho5.mem htri))
        have hE6 := ho5.ext (hE5.trans hx) hl5
        clear hd6 hx HB5' hb5' ho5 hWa HD5 hE5 q50 q51 q52 q53 f50 f51 f52 f53
        have HD5 := HD6
        clear HD6
        go_upto_region 30 with fail
        obtain ⟨q0, q1, q2, -, -, -⟩ := HB10.out.three
        obtain ⟨q50, q51, q52, q53, -, -, -, -⟩ := HB5.out.four
        go_wp2_with fail
        have k0 := journalSync_ok (S := Tri g5 g9 g10) w62 _ _ A d' HJ10.out HD5.out Z5.out.reach Z5.out.usedB (fun k hk => by rcases hk with rfl | rfl | rfl; exact HB5.out.lt; exact HB9.out.lt; exact HB10.out.lt)
        rw [Z9.out] at k0
        refine k0.mono ?_
        clear k0 q0 q1 q2 q50 q51 q52 q53
        rintro e w7 ⟨v1, v2, rfl, hjT, hdY, hx⟩
        obtain ⟨aT, cT, rfl, -, -, -⟩ := hjT.open
        obtain ⟨aY, cY, bY, eY, rfl, -, -, -, -, -, -⟩ := hdY.open
        have hy := ((Ext.refl w7).alloc (.cells #[.slice aT T.records.length cT, .int .i64 T.many, .int .i64 T.synced] 55)).alloc (.cells #[.slice aY Y.sectors.length cY, .slice bY Y.pending.length eY, .int .i64 Y.left, .bool Y.stopped] 25)
        have hx4 := hx.trans hy
        have B16 := Lib.hid ((Box.new w7 [.slice aT T.records.length cT, .int .i64 T.many, .int .i64 T.synced] 55).past (.cells #[.slice aY Y.sectors.length cY, .slice bY Y.pending.length eY, .int .i64 Y.left, .bool Y.stopped] 25))
        have B17 := Lib.hid (Box.at (w := w7.alloc (.cells #[.slice aT T.records.length cT, .int .i64 T.many, .int .i64 T.synced] 55)) (b := w7.heap.size + 1) (cs := [.slice aY Y.sectors.length cY, .slice bY Y.pending.length eY, .int .i64 Y.left, .bool Y.stopped]) (t := 25) (by simp))
        have DT := Lib.hid (hjT.keep hy)
        have DY := Lib.hid (hdY.keep hy)
        replace HB5 := Lib.hid (HB5.out.keep hx4)
        replace HB9 := Lib.hid (HB9.out.keep hx4)
        replace HB10 := Lib.hid (HB10.out.keep hx4)
        replace HJ10 := Lib.hid (HJ10.out.keep hx4)
        replace HK5 := Lib.hid (Bss.keep HK5.out hx4)
        have hE7 := hE6.trans hx4; clear hE6
        clear hx hy hx4 hjT hdY
        go_upto_region 31 with fail
        generalize (w7.alloc (.cells #[.slice aT T.records.length cT, .int .i64 T.many, .int .i64 T.synced] 55)).alloc (.cells #[.slice aY Y.sectors.length cY, .slice bY Y.pending.length eY, .int .i64 Y.left, .bool Y.stopped] 25) = w8 at *
        generalize w7.heap.size + 1 = g17 at *
        generalize w7.heap.size = g16 at *
        rcases Z13.out with ⟨hye, hTs, hTr, hK'⟩ | ⟨hye, hst, Z, hz1, hz2, hz3, hz4, hz5⟩
        case inl =>
          subst hye
          have hts : (T.synced != (A.records.length : Int)) = false := by rw [hTs]; simp
          obtain ⟨vA, eA, hbA⟩ := HJ10.out
          cases eA
          obtain ⟨_, _, eA2, hcA, hmA⟩ := hbA.open
          cases eA2
          obtain ⟨vT, eT, hbT⟩ := DT.out
          cases eT
          have HTR := Lib.hid hTr; clear hTr hTs
          obtain ⟨q160, q161, q162, -, -, -⟩ := B16.out.three
          obtain ⟨q0, q1, q2, -, -, -⟩ := HB10.out.three
          go_wp2_with fail
          have k0 := sameRecords_ok w8 _ _ T.records A.records hbT hbA
          rw [decide_eq_true HTR.out] at k0
          refine k0.mono ?_
          clear k0 q160 q161 q162 q0 q1 q2 hbT
          rintro e w9 ⟨rfl, mm, rfl⟩
          have hx := Ext.drewN w8 mm
          have HKP : Hid (Bss (Tri g5 g9 g10) (w8.drewN mm) (.slice aj K'.length cj) K') := by rw [hK']; exact Lib.hid (Bss.keep hbA hx)
          have HCK : Hid (K'.length ≤ cj ∧ cj ≤ 9223372036854775807) := by rw [hK']; exact Lib.hid ⟨hcA, hmA⟩
          have hAl : A.records.length = K'.length := by rw [hK']
          replace HB5 := Lib.hid (HB5.out.keep hx)
          replace HB10 := Lib.hid (HB10.out.keep hx)
          replace B17 := Lib.hid (B17.out.keep hx)
          replace DY := Lib.hid (DY.out.keep hx)
          have hE8 := hE7.trans hx; clear hE7
          clear hx hbA hcA hmA hK' HJ10 DT
          generalize w8.drewN mm = w9 at *
          rw [hAl] at HB10
          obtain ⟨q0, q1, q2, -, -, -⟩ := HB10.out.three
          obtain ⟨q170, q171, q172, q173, -, -, -, -⟩ := B17.out.four
          go_wp2_with fail
          have k0 := restart_ok (S := Tri g5 g9 g10) w9 _ Y DY.out
          refine k0.mono ?_
          clear k0 q170 q171 q172 q173
          rintro e wr1 ⟨vY, rfl, hdr, hx⟩
          obtain ⟨ar, cr', br, er, rfl, -, -, -, -, -, -⟩ := hdr.open
          have HB5' := Lib.hid (HB5.out.keep hx)
          have HKK := Lib.hid (Bss.keep HKP.out hx)
          have hE9 := hE8.trans hx
          obtain ⟨-, -, -, -, f50, f51, f52, f53⟩ := HB5'.out.four
          obtain ⟨q50, q51, q52, q53, -, -, -, -⟩ := HB5'.out.four
          clear hx
          go_wp2_with fail
          generalize hWa : World.setCell (World.setCell (World.setCell (World.setCell wr1 _ _) _ _) _ _) _ _ = wz
          obtain ⟨hbz, hoz⟩ := box_set4 HB5'.out hWa
          have htri : Tri g5 g9 g10 g5 := .inl rfl
          have hsub : ∀ k, k = g5 → Tri g5 g9 g10 k ∨ wz.heap.size ≤ k := fun k hk => .inl (.inl hk)
          exact ⟨VInv.mk' hlt (hoz.ext hE9 hl5) hbz ((hdr.keepM (hoz.mem htri)).more hsub) ((HKK.out.keepM etBs (hoz.mem htri)).more etBs hsub) Z10.out Z11.out (by have := Z12.out; have := HGM.out; omega) HCK.out.1 HCK.out.2, AInv.less hlt⟩
        case inr =>
          subst hye
          have HZ1 := Lib.hid hz1; clear hz1
          have HZ2 := Lib.hid hz2; clear hz2
          have HZ3 := Lib.hid hz3; clear hz3
          have HZ4 := Lib.hid hz4; clear hz4
          have HZ5 := Lib.hid hz5; clear hz5
          obtain ⟨q170, q171, q172, q173, -, -, -, -⟩ := B17.out.four
          go_wp2_with fail
          have k0 := restart_ok (S := Tri g5 g9 g10) w8 _ Y DY.out
          refine k0.mono ?_
          clear k0 q170 q171 q172 q173
          rintro e w9 ⟨vY, rfl, hdr, hx⟩
          replace HB5 := Lib.hid (HB5.out.keep hx)
          replace HB9 := Lib.hid (HB9.out.keep hx)
          replace HB10 := Lib.hid (HB10.out.keep hx)
          replace HJ10 := Lib.hid (HJ10.out.keep hx)
          replace HK5 := Lib.hid (Bss.keep HK5.out hx)
          replace B17 := Lib.hid (B17.out.keep hx)
          replace DY := Lib.hid (DY.out.keep hx)
          have hE8 := hE7.trans hx; clear hE7 hx
          obtain ⟨ar, cr', br, er, rfl, -, -, -, -, -, -⟩ := hdr.open
          go_wp2_with fail
          have k0 := open_ok (S := Tri g5 g9 g10) w9 _ (restartD Y) hdr (fun k hk => by rcases hk with rfl | rfl | rfl; exact HB5.out.lt; exact HB9.out.lt; exact HB10.out.lt)
          rw [HZ1.out] at k0
          refine k0.mono ?_
          clear k0 hdr
          rintro e w10 ⟨vZ, rfl, hjZ, hx⟩
          obtain ⟨aZ, cZ, rfl, hcZ, hmZ, hbZ⟩ := hjZ.open
          have hy := (Ext.refl w10).alloc (.cells #[.slice aZ Z.records.length cZ, .int .i64 Z.many, .int .i64 Z.synced] 55)
          have hx4 := hx.trans hy
          have B19 := Lib.hid (Box.new w10 [.slice aZ Z.records.length cZ, .int .i64 Z.many, .int .i64 Z.synced] 55)
          have HZB := Lib.hid (Bss.keep hbZ hy)
          replace HB5 := Lib.hid (HB5.out.keep hx4)
          replace HB9 := Lib.hid (HB9.out.keep hx4)
          replace HB10 := Lib.hid (HB10.out.keep hx4)
          replace HJ10 := Lib.hid (HJ10.out.keep hx4)
          replace B17 := Lib.hid (B17.out.keep hx4)
          replace DY := Lib.hid (DY.out.keep hx4)
          have hE9' := hE8.trans hx4; clear hE8
          clear hx hy hx4 hjZ hbZ
          go_upto_region 39 with fail
          generalize w10.alloc (.cells #[.slice aZ Z.records.length cZ, .int .i64 Z.many, .int .i64 Z.synced] 55) = w11 at *
          generalize w10.heap.size = g19 at *
          obtain ⟨vA, eA, hbA⟩ := HJ10.out
          cases eA
          obtain ⟨_, _, eA2, hcA, hmA⟩ := hbA.open
          cases eA2
          have hpre := Sl.pre hbA Z.records.length cj (by rw [HZ2.out]; exact HZ4.out) (by rw [HZ2.out]; exact Nat.le_trans HZ4.out hcA) (by unfold maxLen; omega)
          rw [show A.records.take Z.records.length = Z.records by rw [HZ2.out]; exact HZ5.out.symm] at hpre
          have hL3 := Z3.out
          refine reg16_39 (S := Tri g5 g9 g10) (S2 := Tri g5 g9 g10) _ _ _ _ _ _ _ _ _ _ _ _ _ _ _ _ _ _ _ _ _ _ _ _ _ _ _ _ _ _ _ _ _ _ _ _ _ _ _ _ _ _ _ _ _ _ _ _ _ _ _ _ _ _ _ _ _ _ _ _ _ _ _ _ _ _ _ _ _ _ _ _ _ _ _ _ _ _ _ _ _ _ _ _ _ _ _ _ _ _ _ _ _ _ _ _ _ _ _ _ _ _ _ _ _ _ _ _ _ _ _ _ _ _ _ _ _ _ _ _ _ _ _ _ _ _ _ _ _ _ _ _ _ _ _ _ _ _ _ _ _ _ _ _ _ _ _ _ _ _ _ _ _ _ _ _ _ _ _ _ _ _ _ _ _ _ _ _ _ _ _ _ _ _ _ _ _ _ _ _ _ _ _ _ _ _ _ _ _ _ w11 g9 g10 g19 cZ cj ck aZ aj ak Z A K _ _ HB9.out HB10.out B19.out HZB.out hpre (by rw [HZ2.out, ← hL3]; exact HZ3.out) (by rw [HZ2.out]; exact HZ4.out) hcA ?_
          intro v0 v1 v2 v3 v4 v5 v6 v7 v8 v9 v10 v11 v12 v13 v14 v15 v16 v17 v18 v19 v20 v21 v22 v23 v24 v25 v26 v27 v28 v29 v30 v31 v32 v33 v34 wz hxx
          have HKP : Hid (Bss (Tri g5 g9 g10) wz (.slice aZ K'.length cZ) K') := by have := Bss.keep HZB.out hxx; rw [HZ2.out] at this; exact Lib.hid this
          have HCK : Hid (K'.length ≤ cZ ∧ cZ ≤ 9223372036854775807) := by rw [HZ2.out] at hcZ; exact Lib.hid ⟨hcZ, hmZ⟩
          replace HB5 := Lib.hid (HB5.out.keep hxx)
          replace B17 := Lib.hid (B17.out.keep hxx)
          replace DY := Lib.hid (DY.out.keep hxx)
          replace B19 := Lib.hid (B19.out.keep hxx)
          have hE10 := hE9'.trans hxx; clear hE9' hxx
          have hZl : Z.records.length = K'.length := by rw [HZ2.out]
          rw [hZl] at B19
          clear hpre hbA hcA hmA HZ1 HZ2 HZ3 HZ4 HZ5 hcZ HZB HJ10 HB10 HB9
          obtain ⟨q190, q191, q192, -, -, -⟩ := B19.out.three
          obtain ⟨q170, q171, q172, q173, -, -, -, -⟩ := B17.out.four
          go_wp2_with fail
          have k0 := restart_ok (S := Tri g5 g9 g10) wz _ Y DY.out
          refine k0.mono ?_
          clear k0 q170 q171 q172 q173
          rintro e wr1 ⟨vY, rfl, hdr, hx⟩
          obtain ⟨ar, cr', br, er, rfl, -, -, -, -, -, -⟩ := hdr.open
          have HB5' := Lib.hid (HB5.out.keep hx)
          have HKK := Lib.hid (Bss.keep HKP.out hx)
          have hE9 := hE10.trans hx
          obtain ⟨-, -, -, -, f50, f51, f52, f53⟩ := HB5'.out.four
          obtain ⟨q50, q51, q52, q53, -, -, -, -⟩ := HB5'.out.four
          clear hx
          go_wp2_with fail
          generalize hWa : World.setCell (World.setCell (World.setCell (World.setCell wr1 _ _) _ _) _ _) _ _ = wz
          obtain ⟨hbz, hoz⟩ := box_set4 HB5'.out hWa
          have htri : Tri g5 g9 g10 g5 := .inl rfl
          have hsub : ∀ k, k = g5 → Tri g5 g9 g10 k ∨ wz.heap.size ≤ k := fun k hk => .inl (.inl hk)
          exact ⟨VInv.mk' hlt (hoz.ext hE9 hl5) hbz ((hdr.keepM (hoz.mem htri)).more hsub) ((HKK.out.keepM etBs (hoz.mem htri)).more etBs hsub) Z10.out Z11.out (by have := Z12.out; have := HGM.out; omega) HCK.out.1 HCK.out.2, AInv.less hlt⟩
end Go.Proofs.Ytpciankfpagnhaa
