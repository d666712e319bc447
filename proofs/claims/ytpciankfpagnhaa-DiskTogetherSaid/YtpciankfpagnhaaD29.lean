/- The law DiskTogether returns true on every input. -/
import Derived.Test.YtpciankfpagnhaaD24
import Derived.Test.YtpciankfpagnhaaM7
import Derived.Deep.CutBlock
import Derived.Test.YtpciankfpagnhaaD29b
namespace Go.Proofs.Ytpciankfpagnhaa
open Go.RowKit

/-- Two blocks. -/
def Two (a b k : Nat) : Prop := k = a ∨ k = b

theorem oneBy_zero {d : Dk} (hr : runsD d = true) (l : List Ac) (hp : d.pending = []) : oneBy d l 0 = (d, 0) := by
  have h := (runsD_iff d).1 hr
  unfold oneBy
  rw [pendTo_zero d l hp, syncD_runs hr, hp, if_neg (by simp)]
  obtain ⟨s, p, le, st⟩ := d
  simp only at hp h ⊢
  subst hp
  rw [h.2]
  have : (if 0 ≤ le then le - (([] : List Wr).length : Int) else le) = le := by split <;> simp
  rw [this]
  rfl
set_option maxRecDepth 100000 in
set_option maxHeartbeats 4000000 in
theorem diskTogether_ok (w : World) (v : Value) (d : Dk) (vs : Value) (l : List Ac) (h : Disk No w v d) (hs : Acs No w vs l) (hr : ReachD d) :
    Calls Try.prog 8 #[v, vs] w fun e w' => e = .returned (.bool true) ∧ Ext w w' := by
  obtain ⟨a1, c1, a2, c2, rfl, hc1, hm1, hc2, hm2, -, -⟩ := h.open
  obtain ⟨a3, c3, rfl, hc3, hm3⟩ := hs.open
  have H := Lib.hid h; clear h
  have HL := Lib.hid hs; clear hs
  have HR := Lib.hid hr; clear hr
  go_enter Try.func8, Try.ntmps8
  go_wp2_with fail
  refine (sane41_ok _).mono ?_
  rintro e w1 ⟨rfl, hx⟩
  have hE := ((Ext.refl w).alloc _).trans hx
  have B0 := Lib.hid ((Box.new w _ _).keep hx)
  clear hx
  obtain ⟨c00, c01, c02, c03, -, -, -, -⟩ := B0.out.four
  go_wp2_with fail
  refine (few_ok _ _ d (H.out.keep hE) HR.out).mono ?_
  rintro e w2 ⟨rfl, hx⟩
  have C0 := Lib.hid (B0.out.keep hx); clear B0 c00 c01 c02 c03
  have hE2 := hE.trans hx
  clear hx hE
  obtain ⟨c00, c01, c02, c03, -, -, -, -⟩ := C0.out.four
  cases hf : fewD d
  · go_wp2_with fail
    go_ret
    exact ⟨rfl, hE2⟩
  by_cases hl : 20 < l.length
  · have hl' : (20 : Int) < (l.length : Int) := by omega
    go_wp2_with fail
    go_ret
    exact ⟨rfl, hE2⟩
  have hl' : ¬ (20 : Int) < (l.length : Int) := by omega
  by_cases hp : 0 < d.pending.length
  · have hp' : (0 : Int) < (d.pending.length : Int) := by omega
    go_wp2_with fail
    go_ret
    exact ⟨rfl, hE2⟩
  have hp' : ¬ (0 : Int) < (d.pending.length : Int) := by omega
  by_cases hn : d.sectors.length = 0
  · have hn' : ((d.sectors.length : Int) == 0) = true := by rw [hn]; rfl
    clear hn
    go_wp2_with fail
    go_ret
    exact ⟨rfl, hE2⟩
  have hn' : ((d.sectors.length : Int) == 0) = false := by rw [beq_eq_false_iff_ne]; omega
  have hn0 : 0 < d.sectors.length := by omega
  clear hn
  go_wp2_with fail
  refine (check_ok _ _ d (H.out.keep hE2)).mono ?_
  rintro e w3 ⟨rfl, hx⟩
  have D0 := Lib.hid (C0.out.keep hx); clear C0 c00 c01 c02 c03
  have hE3 := hE2.trans hx
  clear hx hE2
  obtain ⟨c00, c01, c02, c03, -, -, -, -⟩ := D0.out.four
  have q1 := chk_bne d
  cases hok : okD d
  · rw [hok] at q1
    simp only [Bool.not_false] at q1
    go_wp2_with fail
    go_ret
    exact ⟨rfl, hE3⟩
  rw [hok] at q1
  simp only [Bool.not_true] at q1
  cases hst : d.stopped
  rotate_left
  · rw [hst] at c03
    go_wp2_with fail
    go_ret
    exact ⟨rfl, hE3⟩
  have hrun : runsD d = true := (runsD_iff d).2 ⟨hok, hst⟩
  have HRUN := Lib.hid hrun; clear hrun
  have C03 := Lib.hid c03
  rw [hst] at c03
  clear hf hok
  have HST := Lib.hid hst; clear hst
  go_upto_region 5 with fail
  have hs0 : w.heap.size < w3.heap.size := D0.out.lt
  go_cut [5, 6] (fun p5 p6 wx => ∃ g5 g6, p5 = .pointer (some ⟨g5, 0, none⟩) ∧ p6 = .pointer (some ⟨g6, 0, none⟩) ∧ g5 ≠ g6 ∧ w3.heap.size ≤ g5 ∧ w3.heap.size ≤ g6 ∧ Box wx g5 (dkCells a1 c1 a2 c2 d) ∧ Box wx g6 (dkCells a1 c1 a2 c2 d) ∧ Ext w3 wx)
  case first =>
    clear c03
    have c03 := C03.out
    clear HST C03 HR H HL HRUN q1
    go_region_held3 (fun w' : World => w'.cell? ⟨w.heap.size, 0, none⟩ = some (.slice a1 d.sectors.length c1) ∧ w'.cell? ⟨w.heap.size, 1, none⟩ = some (.slice a2 d.pending.length c2) ∧ w'.cell? ⟨w.heap.size, 2, none⟩ = some (.int .i64 d.left) ∧ w'.cell? ⟨w.heap.size, 3, none⟩ = some (.bool d.stopped)) (go_keep) (fail)
    all_goals (go_wp2_with fail; go_meet)
    · exact ⟨w3.heap.size, w3.heap.size + 1, rfl, rfl, by omega, by omega, by omega, ((Box.new w3 _ _).past _).drew, (Box.at (by simp)).drew, (((Ext.refl _).alloc _).alloc _).drew⟩
    · exact ⟨w3.heap.size + 1, w3.heap.size, rfl, rfl, by omega, by omega, by omega, (Box.at (by simp)).drew, ((Box.new w3 _ _).past _).drew, (((Ext.refl _).alloc _).alloc _).drew⟩
  case rest =>
    obtain ⟨g5, g6, rfl, rfl, hne, hg5, hg6, hb5, hb6, hx4⟩ := hcut
    generalize wc = w4 at *
    have E0 := Lib.hid (D0.out.keep hx4)
    have hE4 := hE3.trans hx4
    have hpd : d.pending = [] := List.eq_nil_of_length_eq_zero (by omega)
    have HPD := Lib.hid hpd; clear hpd
    have hw5 : w.heap.size ≤ g5 := by omega
    have hw6 : w.heap.size ≤ g6 := by omega
    have hn5 : w.heap.size ≠ g5 := by omega
    have hn6 : w.heap.size ≠ g6 := by omega
    have hS4 : ∀ k, Two g5 g6 k → k < w4.heap.size := fun k hk => by rcases hk with rfl | rfl; exact hb5.lt; exact hb6.lt
    have HS4 := Lib.hid hS4; clear hS4
    have hmore : ∀ k, Two g5 g6 k → No k ∨ w.heap.size ≤ k := fun k hk => by rcases hk with rfl | rfl; exact .inr hw5; exact .inr hw6
    have HM := Lib.hid hmore; clear hmore
    have HD4 := Lib.hid ((H.out.more HM.out).keepM (hE4.mem (Two g5 g6)))
    have HL4 := Lib.hid ((HL.out.more etAc HM.out).keepM etAc (hE4.mem (Two g5 g6)))
    have B5 := Lib.hid hb5; clear hb5
    have B6 := Lib.hid hb6; clear hb6
    have hnb : d.sectors.length ≤ 4096 := (okD_bounds ((runsD_iff d).1 HRUN.out).1).2.1
    clear c00 c01 c02 c03 hx4 hE3 D0 hs0 hg5 hg6 C03 q1 hn'
    have HNE := Lib.hid hne; clear hne
    have HN5 := Lib.hid hn5; clear hn5
    have HN6 := Lib.hid hn6; clear hn6
    go_upto_block 0 with fail
    go_cut [7] (fun e wx => ∃ (a5 : Option Addr) (c5 : Nat) (a6 : Option Addr) (c6 : Nat), e = .int .i64 (oneBy d l l.length).2 ∧ Hid (Box wx g5 (dkCells a5 c5 a6 c6 (oneBy d l l.length).1)) ∧ Hid (Disk (Two g5 g6) wx (.agg (dkCells a5 c5 a6 c6 (oneBy d l l.length).1).toArray) (oneBy d l l.length).1) ∧ Hid (Box wx g6 (dkCells a1 c1 a2 c2 d)) ∧ Hid (Mem (Two g5 g6) w4 wx) ∧ Ext w wx)
    case first =>
      go_wp2_with fail
      go_loopw [7, 8] (fun e i wr => ∃ (k : Nat) (a5 : Option Addr) (c5 : Nat) (a6 : Option Addr) (c6 : Nat), k ≤ l.length ∧ i = .int .i64 k ∧ e = .int .i64 (oneBy d l k).2 ∧ Hid (Box wr g5 (dkCells a5 c5 a6 c6 (oneBy d l k).1)) ∧ Hid (Disk (Two g5 g6) wr (.agg (dkCells a5 c5 a6 c6 (oneBy d l k).1).toArray) (oneBy d l k).1) ∧ Hid (Box wr g6 (dkCells a1 c1 a2 c2 d)) ∧ Hid (Mem (Two g5 g6) w4 wr) ∧ Ext w wr) (fun _ i _ => l.length - (intOf i).toNat)
      case atStart =>
        refine ⟨0, a1, c1, a2, c2, Nat.zero_le _, rfl, ?_, ?_, ?_, B6, Lib.hid (Mem.refl _ _), hE4⟩
        · rw [oneBy_zero HRUN.out l HPD.out]
        · rw [oneBy_zero HRUN.out l HPD.out]; exact B5
        · rw [oneBy_zero HRUN.out l HPD.out]; exact HD4
      case round =>
        obtain ⟨k, a5, c5, a6, c6, hk, rfl, rfl, R5, RD, R6, RM, hEr⟩ := hrel
        have HSr : Hid (∀ k, Two g5 g6 k → k < wr.heap.size) := Lib.hid fun k hk => Nat.lt_of_lt_of_le (HS4.out k hk) RM.out.size
        have E1 := Lib.hid (E0.out.keepM RM.out (fun h => by rcases h with h | h; exact HN5.out h; exact HN6.out h))
        have L1 : Hid (Acs (Two g5 g6) wr (.slice a3 l.length c3) l) := Lib.hid (HL4.out.keepM etAc RM.out)
        by_cases hgo : k < l.length ∧ (oneBy d l k).2 = 0
        · obtain ⟨hlt, he0⟩ := hgo
          obtain ⟨z, hz1, hz2⟩ := oneBy_write HRUN.out l k (by omega) hlt he0
          have HZ1 := Lib.hid hz1; clear hz1
          have HZ2 := Lib.hid hz2; clear hz2
          generalize hX : oneBy d l k = X at *
          have HX := Lib.hid hX; clear hX
          obtain ⟨x, xe⟩ := X
          simp only at he0
          subst he0
          obtain ⟨bb, oo, rfl, hbb, y0, y1, y2⟩ := L1.out.elem hlt
          generalize l[k] = ac at *
          have hat : ac.at_.toNat < 256 := ac.at_.toNat_lt
          have hby : ac.byte.toNat < 256 := ac.byte.toNat_lt
          obtain ⟨c00, c01, c02, c03, -, -, -, -⟩ := E1.out.four
          obtain ⟨d0, d1, d2, d3, -, -, -, -⟩ := R5.out.four
          have hi1 : (k : Int) < l.length := by omega
          have hi0 : (0 : Int) ≤ k := by omega
          have hnz : ¬ (d.sectors.length : Int) = 0 := by omega
          go_wp2_with fail
          go_quiet (fail)
          generalize hwq : wr.drewN nq = wq at *
          have hxq : Ext wr wq := hwq ▸ Ext.drewN wr nq
          clear hwq c00 c01 c02 c03 d0 d1 d2 d3 y0 y1
          have E2 := Lib.hid (E1.out.keep hxq); clear E1
          have Q5 := Lib.hid (R5.out.keep hxq); clear R5
          have Q6 := Lib.hid (R6.out.keep hxq); clear R6
          have QD := Lib.hid (RD.out.keep hxq); clear RD
          have QM := Lib.hid (RM.out.trans (hxq.mem _)); clear RM
          have hEq := hEr.trans hxq; clear hEr
          have y3 := hxq.cell y2
          have hSq : ∀ k, Two g5 g6 k → k < wq.heap.size := fun k hk => Nat.lt_of_lt_of_le (HSr.out k hk) hxq.size
          have HSq := Lib.hid hSq; clear hSq HSr hxq y2 L1
          obtain ⟨d0, d1, d2, d3, -, -, -, -⟩ := Q5.out.four
          go_upto_region 11 with fail
          go_cut [10, 11] (fun p e wx => ∃ g7 a7 c7 a8 c8, p = .pointer (some ⟨g7, 0, none⟩) ∧ e = .int .i64 0 ∧ wq.heap.size ≤ g7 ∧ Hid (Box wx g7 (dkCells a7 c7 a8 c8 z)) ∧ Hid (Disk (Two g5 g6) wx (.agg (dkCells a7 c7 a8 c8 z).toArray) z) ∧ Ext wq wx)
          case first =>
            refine reg8_11 (S := Two g5 g6) _ _ _ _ _ _ _ _ _ _ _ _ _ _ _ _ _ _ _ _ _ _ _ _ _ _ _ _ _ _ _ _ _ _ _ _ _ _ _ _ _ _ _ _ _ _ _ _ _ _ _ _ _ _ _ _ _ _ _ _ _ _ _ _ _ _ _ _ _ _ _ _ _ _ _ _ _ _ _ _ _ _ _ _ _ _ _ _ _ _ _ _ _ _ _ _ _ _ _ _ _ _ _ _ _ _ _ _ _ _ _ _ _ _ _ _ _ _ _ _ _ _ _ _ _ _ _ wq g5 a5 c5 a6 c6 x z bb oo k l.length c3 ac _ Q5.out QD.out HSq.out hlt y3 HZ1.out ?_
            intro u70 u71 u72 u73 u74 u75 u76 u77 u78 u69 u79 u80 g7 a7 c7 a8 c8 wx h1 h2 h3 h4
            dsimp only
            go_wp2_with fail
            go_meet
            exact ⟨g7, a7, c7, a8, c8, rfl, rfl, h1, Lib.hid h2, Lib.hid h3, h4⟩
          case rest =>
            obtain ⟨g7, a7, c7, a8, c8, rfl, rfl, hg7, T7, TD, hxt⟩ := hcut
            generalize wc = wt at *
            clear d0 d1 d2 d3 y3
            have T5 := Lib.hid (Q5.out.keep hxt); clear Q5
            have T6 := Lib.hid (Q6.out.keep hxt); clear Q6
            have TM := Lib.hid (QM.out.trans (hxt.mem _)); clear QM
            have hEt := hEq.trans hxt; clear hEq
            have hSt : ∀ k, Two g5 g6 k → k < wt.heap.size := fun k hk => Nat.lt_of_lt_of_le (HSq.out k hk) hxt.size
            have HSt := Lib.hid hSt; clear hSt HSq hxt QD E2
            obtain ⟨d0, d1, d2, d3, -, -, -, -⟩ := T7.out.four
            go_wp2_with fail
            have k0 := sync_ok (S := Two g5 g6) wt _ z TD.out HSt.out
            rw [HZ2.out] at k0
            refine k0.mono ?_
            clear k0 d0 d1 d2 d3
            rintro e w6 ⟨v6, rfl, hd6, hx6⟩
            obtain ⟨a9, c9, a10, c10, rfl, -, -, -, -, -, -⟩ := hd6.open
            obtain ⟨d0, d1, d2, d3, f0, f1, f2, f3⟩ := (T5.out.keep hx6).four
            have h5s : g5 < w6.heap.size := (T5.out.keep hx6).lt
            go_upto_region 9 with fail
            generalize hW : World.setCell _ _ _ = w10
            obtain ⟨hb10, ho10⟩ := box_set4 (T5.out.keep hx6) hW
            clear hW d0 d1 d2 d3 f0 f1 f2 f3
            have hm10 := TM.out.trans ((hx6.mem _).trans (ho10.mem (S := Two g5 g6) (.inl rfl)))
            have hd10 := hd6.keepM (ho10.mem (S := Two g5 g6) (.inl rfl))
            have hE10 := ho10.ext (hEt.trans hx6) hw5
            have h610 := ho10.box (T6.out.keep hx6) (fun h => HNE.out h.symm)
            have HM10 := Lib.hid hm10; clear hm10
            have HD10 := Lib.hid hd10; clear hd10
            have HB10 := Lib.hid hb10; clear hb10
            have H610 := Lib.hid h610; clear h610 hd6 hx6 ho10 h5s
            go_wp2_with fail
            go_roundw
            case rel => exact ⟨k + 1, a9, c9, a10, c10, by omega, by go_num, rfl, HB10, HD10, H610, HM10, hE10⟩
            case measure => simp [intOf]; omega
        · have hend := oneBy_end HRUN.out l k (by omega) hk (by by_cases h : k < l.length; exact .inr (fun h2 => hgo ⟨h, h2⟩); exact .inl (by omega))
          rw [hend] at R5 RD hgo
          rw [hend]
          by_cases hlt : k < l.length
          · have hq : ((oneBy d l l.length).2 == 0) = false := by rw [beq_eq_false_iff_ne]; exact fun h => hgo ⟨hlt, h⟩
            have hi1 : (k : Int) < l.length := by omega
            clear hgo hend
            go_wp2_with fail
            go_meet
            exact ⟨a5, c5, a6, c6, rfl, R5, RD, R6, RM, hEr⟩
          · have hi1 : ¬ (k : Int) < l.length := by omega
            clear hgo hend
            go_wp2_with fail
            go_meet
            exact ⟨a5, c5, a6, c6, rfl, R5, RD, R6, RM, hEr⟩
    case rest =>
      obtain ⟨a5, c5, a6, c6, rfl, R5, RD, R6, RM, hEr⟩ := hcut
      generalize wc = w5 at *
      clear B5 B6
      generalize hXF : oneBy d l l.length = XF at *
      have HXF := Lib.hid hXF; clear hXF
      obtain ⟨xf, ef⟩ := XF
      have t0 := pendTo_zero d l HPD.out
      have HT0 := Lib.hid t0; clear t0
      have RD6 := Lib.hid (HD4.out.keepM RM.out); clear HD4
      go_upto_region 15 with fail
      go_wp2_with fail
      go_loopw [12] (fun i wr => ∃ (k : Nat) (a7 : Option Addr) (c7 : Nat) (a8 : Option Addr) (c8 : Nat), k ≤ l.length ∧ i = .int .i64 k ∧ Hid (Box wr g6 (dkCells a7 c7 a8 c8 (pendTo d l k))) ∧ Hid (Disk (Two g5 g6) wr (.agg (dkCells a7 c7 a8 c8 (pendTo d l k)).toArray) (pendTo d l k)) ∧ Hid (Box wr g5 (dkCells a5 c5 a6 c6 xf)) ∧ Hid (Disk (Two g5 g6) wr (.agg (dkCells a5 c5 a6 c6 xf).toArray) xf) ∧ Hid (Mem (Two g5 g6) w4 wr) ∧ Ext w wr) (fun i _ => l.length - (intOf i).toNat)
      case atStart =>
        refine ⟨0, a1, c1, a2, c2, Nat.zero_le _, rfl, ?_, ?_, R5, RD, RM, hEr⟩
        · rw [HT0.out]; exact R6
        · rw [HT0.out]; exact RD6
      case round =>
        clear R5 RD R6 RM hEr RD6
        obtain ⟨k, a7, c7, a8, c8, hk, rfl, R6, RD6, R5, RD, RM, hEr⟩ := hrel
        have HSr : Hid (∀ k, Two g5 g6 k → k < wr.heap.size) := Lib.hid fun k hk => Nat.lt_of_lt_of_le (HS4.out k hk) RM.out.size
        have E1 := Lib.hid (E0.out.keepM RM.out (fun h => by rcases h with h | h; exact HN5.out h; exact HN6.out h))
        have L1 : Hid (Acs (Two g5 g6) wr (.slice a3 l.length c3) l) := Lib.hid (HL4.out.keepM etAc RM.out)
        by_cases hlt : k < l.length
        · have hz1 := pendTo_write HRUN.out l k (by omega) hlt
          have HZ1 := Lib.hid hz1; clear hz1
          have hln : (pendTo d l k).sectors.length = d.sectors.length := rfl
          clear hln
          generalize hX : pendTo d l k = x at *
          have HX := Lib.hid hX; clear hX
          generalize hZ : pendTo d l (k + 1) = z at *
          have HZ := Lib.hid hZ; clear hZ
          obtain ⟨bb, oo, rfl, hbb, y0, y1, y2⟩ := L1.out.elem hlt
          generalize l[k] = ac at *
          have hat : ac.at_.toNat < 256 := ac.at_.toNat_lt
          have hby : ac.byte.toNat < 256 := ac.byte.toNat_lt
          obtain ⟨c00, c01, c02, c03, -, -, -, -⟩ := E1.out.four
          obtain ⟨d0, d1, d2, d3, -, -, -, -⟩ := R6.out.four
          have hi1 : (k : Int) < l.length := by omega
          have hi0 : (0 : Int) ≤ k := by omega
          have hnz : ¬ (d.sectors.length : Int) = 0 := by omega
          go_upto_region 18 with fail
          go_cut [13, 14] (fun p e wx => ∃ g7 a9 c9 a10 c10, p = .pointer (some ⟨g7, 0, none⟩) ∧ e = .int .i64 0 ∧ wr.heap.size ≤ g7 ∧ Hid (Box wx g7 (dkCells a9 c9 a10 c10 z)) ∧ Hid (Disk (Two g5 g6) wx (.agg (dkCells a9 c9 a10 c10 z).toArray) z) ∧ Ext wr wx)
          case first =>
            refine reg8_18 (S := Two g5 g6) _ _ _ _ _ _ _ _ _ _ _ _ _ _ _ _ _ _ _ _ _ _ _ _ _ _ _ _ _ _ _ _ _ _ _ _ _ _ _ _ _ _ _ _ _ _ _ _ _ _ _ _ _ _ _ _ _ _ _ _ _ _ _ _ _ _ _ _ _ _ _ _ _ _ _ _ _ _ _ _ _ _ _ _ _ _ _ _ _ _ _ _ _ _ _ _ _ _ _ _ _ _ _ _ _ _ _ _ _ _ _ _ _ _ _ _ _ _ _ _ _ _ _ _ _ _ _ wr g6 a7 c7 a8 c8 x z bb oo k l.length c3 ac w.heap.size a1 c1 d.sectors.length (by omega) c00 y1 R6.out RD6.out HSr.out hlt y2 HZ1.out ?_
            intro u95 u96 u97 u98 u99 u100 u101 u102 u103 u104 u105 u106 u107 u108 u109 u110 u111 u112 u94 u113 u114 g7 a9 c9 a10 c10 wx h1 h2 h3 h4
            dsimp only
            go_wp2_with fail
            go_meet
            exact ⟨g7, a9, c9, a10, c10, rfl, rfl, h1, Lib.hid h2, Lib.hid h3, h4⟩
          case rest =>
            obtain ⟨g7, a9, c9, a10, c10, rfl, rfl, hg7, T7, TD, hxt⟩ := hcut
            generalize wc = wt at *
            clear d0 d1 d2 d3 y0 y1 y2 c00 c01 c02 c03
            have T5 := Lib.hid (R5.out.keep hxt); clear R5
            have T6 := Lib.hid (R6.out.keep hxt); clear R6
            have TD5 := Lib.hid (RD.out.keep hxt); clear RD
            have TM := Lib.hid (RM.out.trans (hxt.mem _)); clear RM
            have hEt := hEr.trans hxt; clear hEr
            clear hxt RD6 E1 HSr L1
            obtain ⟨d0, d1, d2, d3, -, -, -, -⟩ := T7.out.four
            obtain ⟨e0, e1, e2, e3, f0, f1, f2, f3⟩ := T6.out.four
            have h6s : g6 < wt.heap.size := T6.out.lt
            go_upto_region 17 with fail
            generalize hW : World.setCell _ _ _ = w10
            obtain ⟨hb10, ho10⟩ := box_set4 T6.out hW
            clear hW d0 d1 d2 d3 e0 e1 e2 e3 f0 f1 f2 f3
            have HM10 := Lib.hid (TM.out.trans (ho10.mem (S := Two g5 g6) (.inr rfl)))
            have HD10 := Lib.hid (TD.out.keepM (ho10.mem (S := Two g5 g6) (.inr rfl)))
            have HD5 := Lib.hid (TD5.out.keepM (ho10.mem (S := Two g5 g6) (.inr rfl)))
            have hE10 := ho10.ext hEt hw6
            have H510 := Lib.hid (ho10.box T5.out HNE.out)
            have HB10 := Lib.hid hb10; clear hb10
            clear ho10 h6s
            go_wp2_with fail
            go_roundw
            case rel =>
              refine ⟨k + 1, a9, c9, a10, c10, by omega, by go_num, ?_, ?_, H510, HD5, HM10, hE10⟩
              · rw [HZ.out]; exact HB10
              · rw [HZ.out]; exact HD10
            case measure => simp [intOf]; omega
        · obtain rfl : k = l.length := by omega
          obtain ⟨d0, d1, d2, d3, -, -, -, -⟩ := R6.out.four
          go_wp2_with fail
          have k0 := sync_ok (S := Two g5 g6) wr _ _ RD6.out HSr.out
          rw [show syncD (pendTo d l l.length) = (xf, ef) from HXF.out] at k0
          refine k0.mono ?_
          clear k0 d0 d1 d2 d3
          rintro e w6 ⟨v6, rfl, hd6, hx6⟩
          obtain ⟨a9, c9, a10, c10, rfl, -, -, -, -, -, -⟩ := hd6.open
          obtain ⟨d0, d1, d2, d3, f0, f1, f2, f3⟩ := (R6.out.keep hx6).four
          have h6s : g6 < w6.heap.size := (R6.out.keep hx6).lt
          go_upto_region 23 with fail
          generalize hW : World.setCell _ _ _ = w10
          obtain ⟨hb10, ho10⟩ := box_set4 (R6.out.keep hx6) hW
          clear hW d0 d1 d2 d3 f0 f1 f2 f3
          have hd10 := hd6.keepM (ho10.mem (S := Two g5 g6) (.inr rfl))
          have hd5 := (RD.out.keep hx6).keepM (ho10.mem (S := Two g5 g6) (.inr rfl))
          have hE10 := ho10.ext (hEr.trans hx6) hw6
          have h510 := ho10.box (R5.out.keep hx6) HNE.out
          have HD10 := Lib.hid hd10; clear hd10
          have HD5 := Lib.hid hd5; clear hd5
          obtain ⟨d0, d1, d2, d3, -, -, -, -⟩ := hb10.four
          obtain ⟨e0, e1, e2, e3, -, -, -, -⟩ := h510.four
          clear hd6 hx6 ho10 h6s hb10 h510
          have he : (ef == ef) = true := beq_self_eq_true _
          go_wp2_with fail
          refine (sameT w10 _ _ xf HD5.out HD10.out).mono ?_
          rintro e w11 ⟨rfl, hx11⟩
          go_wp2_with fail
          go_ret
          exact ⟨rfl, hE10.trans hx11⟩
end Go.Proofs.Ytpciankfpagnhaa
