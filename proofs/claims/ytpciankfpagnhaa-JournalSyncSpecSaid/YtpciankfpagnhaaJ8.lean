/- When is a sector good: the reference's function. -/
import Derived.Test.YtpciankfpagnhaaJ7r
namespace Go.Proofs.Ytpciankfpagnhaa
open Go.RowKit

def zerosFrom (s : List UInt8) (m : Nat) : Bool := (List.range 124).all fun j => decide (j < m) || s.getD j 0 == 0
theorem zerosFrom_true {s : List UInt8} {m : Nat} (h : ∀ j, j < 124 → m ≤ j → s.getD j 0 = 0) : zerosFrom s m = true := by
  unfold zerosFrom; rw [List.all_eq_true]; intro j hj; rw [List.mem_range] at hj
  rcases Nat.lt_or_ge j m with h' | h'
  · simp [h']
  · have h2 := h j hj h'; rw [h2]; simp
theorem zerosFrom_false {s : List UInt8} {m j : Nat} (h1 : j < 124) (h2 : m ≤ j) (h3 : s.getD j 0 ≠ 0) : zerosFrom s m = false := by
  unfold zerosFrom; rw [List.all_eq_false]; exact ⟨j, List.mem_range.2 h1, by simp; exact ⟨by omega, by simpa using h3⟩⟩
/-- Is a sector good for a number, as the reference asks it? -/
def goodS (s : List UInt8) (k : Nat) : Bool :=
  !(decide (num (s.take 4) = 0)) && decide (num (s.take 4) = num ((s.drop 124).take (s.length - 124))) && decide (num ((s.drop 4).take 4) = crc ((s.drop 8).take 116)) && decide (num ((s.drop 8).take 2) = k) &&
    decide ((s.getD 10 0).toNat ≤ 3) && decide ((s.getD 11 0).toNat ≤ 112) && !(decide ((s.getD 10 0).toNat < 2) && !decide ((s.getD 11 0).toNat = 112)) && !(decide ((s.getD 10 0).toNat % 2 = 0) && decide ((s.getD 11 0).toNat = 0)) && zerosFrom s (12 + (s.getD 11 0).toNat)
theorem goodS_def (s : List UInt8) (k : Nat) : goodS s k =
  (!(decide (num (s.take 4) = 0)) && decide (num (s.take 4) = num ((s.drop 124).take (s.length - 124))) && decide (num ((s.drop 4).take 4) = crc ((s.drop 8).take 116)) && decide (num ((s.drop 8).take 2) = k) &&
    decide ((s.getD 10 0).toNat ≤ 3) && decide ((s.getD 11 0).toNat ≤ 112) && !(decide ((s.getD 10 0).toNat < 2) && !decide ((s.getD 11 0).toNat = 112)) && !(decide ((s.getD 10 0).toNat % 2 = 0) && decide ((s.getD 11 0).toNat = 0)) && zerosFrom s (12 + (s.getD 11 0).toNat)) := rfl

set_option maxRecDepth 100000 in
set_option maxHeartbeats 4000000 in
theorem refGood_ok {S : Nat → Prop} (w : World) (v : Value) (s : List UInt8) (k : Nat) (h : Bs S w v s) (hl1 : 128 ≤ s.length) (hl2 : s.length ≤ 128) (hk : k < 9223372036854775808) :
    Calls Try.prog 92 #[v, .int .i64 (k : Int)] w fun e w' => e = .returned (.bool (goodS s k)) ∧ Ext w w' := by
  obtain ⟨a, c, rfl, hc, hm⟩ := h.open
  obtain ⟨b, o, rfl, hb, c10⟩ := h.elem (k := 10) (by omega)
  obtain ⟨b', o', e, -, c11⟩ := h.elem (k := 11) (by omega)
  cases e
  have hg10 : s.getD 10 0 = s[10]'(by omega) := by rw [List.getD_eq_getElem?_getD, List.getElem?_eq_getElem]; rfl
  have hg11 : s.getD 11 0 = s[11]'(by omega) := by rw [List.getD_eq_getElem?_getD, List.getElem?_eq_getElem]; rfl
  have hgc := goodS_def s k
  rw [hg10, hg11] at hgc
  clear hg10 hg11
  have H := Lib.hid h; clear h
  have hx10 := s[10].toNat_lt
  have hx11 := s[11].toNat_lt
  have b1 := H.out.sub 0 4 c (by omega) (by omega) hm
  rw [List.drop_zero, Nat.add_zero] at b1
  have b2 := H.out.sub 124 (s.length - 124) (c - 124) (by omega) (by omega) (by unfold maxLen; omega)
  have b3 := H.out.sub 4 4 (c - 4) (by omega) (by omega) (by unfold maxLen; omega)
  have b4 := H.out.sub 8 116 (c - 8) (by omega) (by omega) (by unfold maxLen; omega)
  have b5 := H.out.sub 8 2 (c - 8) (by omega) (by omega) (by unfold maxLen; omega)
  have m1 := num_lt (s.take 4)
  rw [List.length_take, Nat.min_eq_left (by omega)] at m1
  have m2 := num_lt ((s.drop 124).take (s.length - 124))
  have m3 := num_lt ((s.drop 4).take 4)
  have m5 := num_lt ((s.drop 8).take 2)
  have l2 : ((s.drop 124).take (s.length - 124)).length = 4 := by rw [List.length_take, List.length_drop]; omega
  have l3 : ((s.drop 4).take 4).length = 4 := by rw [List.length_take, List.length_drop]; omega
  have l5 : ((s.drop 8).take 2).length = 2 := by rw [List.length_take, List.length_drop]; omega
  rw [l2] at m2
  rw [l3] at m3
  rw [l5] at m5
  have m4 := crc_lt ((s.drop 8).take 116)
  have K1 := Lib.hid (fun n => Calls.quiet_of_same (w := w) (n := n) ((number_ok (w.drewN n) _ _ (b1.keep (Ext.drewN w n)) (by rw [List.length_take]; omega)).mono fun _ _ h => ⟨h.1, h.2.symm⟩))
  have K2 := Lib.hid (fun n => Calls.quiet_of_same (w := w) (n := n) ((number_ok (w.drewN n) _ _ (b2.keep (Ext.drewN w n)) (by omega)).mono fun _ _ h => ⟨h.1, h.2.symm⟩))
  have K3 := Lib.hid (fun n => Calls.quiet_of_same (w := w) (n := n) ((number_ok (w.drewN n) _ _ (b3.keep (Ext.drewN w n)) (by omega)).mono fun _ _ h => ⟨h.1, h.2.symm⟩))
  have K5 := Lib.hid (fun n => Calls.quiet_of_same (w := w) (n := n) ((number_ok (w.drewN n) _ _ (b5.keep (Ext.drewN w n)) (by omega)).mono fun _ _ h => ⟨h.1, h.2.symm⟩))
  have K4 := Lib.hid (fun n => Calls.quiet_of_same (w := w) (n := n) ((checksum_ok (w.drewN n) _ _ (b4.keep (Ext.drewN w n))).mono fun _ _ h => ⟨h.1, h.2.symm⟩))
  clear b1 b2 b3 b4 b5 l2 l3 l5
  generalize s[10] = x at *
  generalize s[11] = y at *
  generalize num (s.take 4) = n4 at *
  generalize num ((s.drop 124).take (s.length - 124)) = nT at *
  generalize num ((s.drop 4).take 4) = n48 at *
  generalize num ((s.drop 8).take 2) = n2 at *
  generalize crc ((s.drop 8).take 116) = cr at *
  have HGC := Lib.hid hgc; clear hgc
  have hl1' : (128 : Int) ≤ s.length := by omega
  have hcl : (s.length : Int) ≤ c := by omega
  have i1 : (4 : Int) ≤ c := by omega
  have i2 : (8 : Int) ≤ c := by omega
  have i3 : (10 : Int) ≤ c := by omega
  have i4 : (124 : Int) ≤ c := by omega
  have i5 : (124 : Int) ≤ s.length := by omega
  have i6 : ¬ c = 124 := by omega
  have i7 : ¬ c = 4 := by omega
  have i8 : ¬ c = 8 := by omega
  have hn48 : n48 < 4294967296 := m3
  have hw3 : IntKind.u32.wrap (n48 : Int) = n48 := wraps_u32 _ (by omega) (by omega)
  have hw4 : IntKind.u64.wrap (k : Int) = k := wraps_u64 _ (by omega) (by omega)
  have M1 := Lib.hid m1; clear m1
  have M2 := Lib.hid m2; clear m2
  have M3 := Lib.hid m3; clear m3
  have M5 := Lib.hid m5; clear m5
  have M4 := Lib.hid m4; clear m4
  have HL1 := Lib.hid hl1; clear hl1
  have HK := Lib.hid hk; clear hk
  go_enter Try.func92, Try.ntmps92
  go_upto_region 2 with fail
  by_cases q1 : n4 = 0
  case pos =>
    have q1_0 : ((n4 : Int) == 0) = true := by simp; omega
    have Q := Lib.hid q1; clear q1
    go_quiet (first
      | (go_at_call 85; first | with_reducible exact K1.out _ | with_reducible exact K2.out _ | with_reducible exact K3.out _ | with_reducible exact K5.out _)
      | (go_at_call 89; with_reducible exact K4.out _))
    go_wp2_with fail
    go_ret
    exact ⟨ret_b (by rw [HGC.out]; simp [Q.out]), Ext.drewN _ _⟩
  have q1_0 : ((n4 : Int) == 0) = false := by simp; omega
  have Q1 := Lib.hid q1; clear q1
  by_cases q2 : n4 = nT
  case neg =>
    have q2_0 : ((n4 : Int) != (nT : Int)) = true := by simp; omega
    have Q := Lib.hid q2; clear q2
    go_quiet (first
      | (go_at_call 85; first | with_reducible exact K1.out _ | with_reducible exact K2.out _ | with_reducible exact K3.out _ | with_reducible exact K5.out _)
      | (go_at_call 89; with_reducible exact K4.out _))
    go_wp2_with fail
    go_ret
    exact ⟨ret_b (by rw [HGC.out]; simp [Q.out]), Ext.drewN _ _⟩
  have q2_0 : ((n4 : Int) != (nT : Int)) = false := by simp; omega
  have Q2 := Lib.hid q2; clear q2
  by_cases q3 : n48 = cr
  case neg =>
    have q3_0 : ((n48 : Int) != (cr : Int)) = true := by simp; omega
    have Q := Lib.hid q3; clear q3
    go_quiet (first
      | (go_at_call 85; first | with_reducible exact K1.out _ | with_reducible exact K2.out _ | with_reducible exact K3.out _ | with_reducible exact K5.out _)
      | (go_at_call 89; with_reducible exact K4.out _))
    go_wp2_with fail
    go_ret
    exact ⟨ret_b (by rw [HGC.out]; simp [Q.out]), Ext.drewN _ _⟩
  have q3_0 : ((n48 : Int) != (cr : Int)) = false := by simp; omega
  have Q3 := Lib.hid q3; clear q3
  by_cases q4 : n2 = k
  case neg =>
    have q4_0 : ((n2 : Int) != (k : Int)) = true := by simp; omega
    have Q := Lib.hid q4; clear q4
    go_quiet (first
      | (go_at_call 85; first | with_reducible exact K1.out _ | with_reducible exact K2.out _ | with_reducible exact K3.out _ | with_reducible exact K5.out _)
      | (go_at_call 89; with_reducible exact K4.out _))
    go_wp2_with fail
    go_ret
    exact ⟨ret_b (by rw [HGC.out]; simp [Q.out]), Ext.drewN _ _⟩
  have q4_0 : ((n2 : Int) != (k : Int)) = false := by simp; omega
  have Q4 := Lib.hid q4; clear q4
  by_cases q5 : 3 < x.toNat
  case pos =>
    have q5' : decide ((3 : Int) < x.toNat) = true := by simp; omega
    have Q := Lib.hid q5; clear q5
    go_quiet (first
      | (go_at_call 85; first | with_reducible exact K1.out _ | with_reducible exact K2.out _ | with_reducible exact K3.out _ | with_reducible exact K5.out _)
      | (go_at_call 89; with_reducible exact K4.out _))
    go_wp2_with fail
    go_ret
    exact ⟨ret_b (by rw [HGC.out]; simp; intro _ _ _ _ h; exact absurd h (by have := Q.out; omega)), Ext.drewN _ _⟩
  have q5' : decide ((3 : Int) < x.toNat) = false := by simp; omega
  by_cases q6 : 112 < y.toNat
  case pos =>
    have q6' : decide ((112 : Int) < y.toNat) = true := by simp; omega
    have Q := Lib.hid q6; clear q6
    go_quiet (first
      | (go_at_call 85; first | with_reducible exact K1.out _ | with_reducible exact K2.out _ | with_reducible exact K3.out _ | with_reducible exact K5.out _)
      | (go_at_call 89; with_reducible exact K4.out _))
    go_wp2_with fail
    go_ret
    exact ⟨ret_b (by rw [HGC.out]; simp; intro _ _ _ _ _ h; exact absurd h (by have := Q.out; omega)), Ext.drewN _ _⟩
  have q6' : decide ((112 : Int) < y.toNat) = false := by simp; omega
  have hx4 : x = 0 ∨ x = 1 ∨ x = 2 ∨ x = 3 := byte4 x (by omega)
  clear q5 hx10
  rcases hx4 with rfl | rfl | rfl | rfl
  · have hxv : ((0 : UInt8).toNat : Int) = 0 := rfl
    rw [hxv] at c10 q5'
    by_cases q7 : y.toNat = 112
    case neg =>
      have q7' : ((y.toNat : Int) != 112) = true := by simp; omega
      have Q := Lib.hid q7; clear q7
      go_quiet (first
        | (go_at_call 85; first | with_reducible exact K1.out _ | with_reducible exact K2.out _ | with_reducible exact K3.out _ | with_reducible exact K5.out _)
        | (go_at_call 89; with_reducible exact K4.out _))
      go_wp2_with fail
      go_ret
      exact ⟨ret_b (by rw [HGC.out]; simp [Q.out]), Ext.drewN _ _⟩
    have q7' : ((y.toNat : Int) != 112) = false := by simp; omega
    have q8' : ((y.toNat : Int) == 0) = false := by simp; omega
    have hgd : goodS s k = zerosFrom s (12 + y.toNat) := by
      rw [HGC.out, decide_eq_false Q1.out, decide_eq_true Q2.out, decide_eq_true Q3.out, decide_eq_true Q4.out, decide_eq_true (show y.toNat ≤ 112 by omega), decide_eq_true q7, decide_eq_false (show ¬ y.toNat = 0 by omega)]; rfl
    have HGD := Lib.hid hgd; clear hgd HGC
    go_quiet (first
      | (go_at_call 85; first | with_reducible exact K1.out _ | with_reducible exact K2.out _ | with_reducible exact K3.out _ | with_reducible exact K5.out _)
      | (go_at_call 89; with_reducible exact K4.out _))
    go_wp2_with fail
    go_loop [6] (fun i => ∃ m : Nat, 12 + y.toNat ≤ m ∧ m ≤ 124 ∧ i = .int .i64 m ∧ ∀ j, j < m → 12 + y.toNat ≤ j → s.getD j 0 = 0) (fun i => 124 - (intOf i).toNat)
    case atStart => exact ⟨12 + y.toNat, Nat.le_refl _, by omega, by go_num, fun j h1 h2 => absurd h1 (by omega)⟩
    case round =>
      obtain ⟨m, hm1, hm2, rfl, hz⟩ := hrel
      have HZ := Lib.hid hz; clear hz
      have hm0 : (0 : Int) ≤ m := by omega
      by_cases hlt : m < 124
      · obtain ⟨b', o', e, -, cm⟩ := H.out.elem (k := m) (by have := HL1.out; omega)
        cases e
        have hgm : s.getD m 0 = s[m]'(by have := HL1.out; omega) := by rw [List.getD_eq_getElem?_getD, List.getElem?_eq_getElem]; rfl
        have HGM := Lib.hid hgm; clear hgm
        generalize s[m]'(by have := HL1.out; omega) = z at *
        have hmi : (m : Int) < 124 := by omega
        have hmi2 : (m : Int) < s.length := by omega
        have hzl := z.toNat_lt
        by_cases hzz : z = 0
        · have HZZ := Lib.hid hzz
          have hd : ((z.toNat : Int) != 0) = false := by rw [hzz]; rfl
          clear hzz
          go_wp2_with fail
          go_round
          case rel => exact ⟨m + 1, by omega, by omega, by go_num, fun j h1 h2 => by
            rcases Nat.lt_or_ge j m with h | h
            · exact HZ.out j h h2
            · obtain rfl : j = m := by omega
              rw [HGM.out, HZZ.out]⟩
          case measure => simp [intOf]; omega
        · have HZZ := Lib.hid hzz
          have hd : ((z.toNat : Int) != 0) = true := by
            simp; intro h; exact hzz (UInt8.toNat_inj.1 (by simpa using h))
          clear hzz
          go_wp2_with fail
          go_ret
          exact ⟨ret_b (by rw [HGD.out, zerosFrom_false (j := m) hlt hm1 (by rw [HGM.out]; exact HZZ.out)]), Ext.drewN _ _⟩
      · obtain rfl : m = 124 := by omega
        go_wp2_with fail
        go_ret
        exact ⟨ret_b (by rw [HGD.out, zerosFrom_true HZ.out]), Ext.drewN _ _⟩
  · have hxv : ((1 : UInt8).toNat : Int) = 1 := rfl
    rw [hxv] at c10 q5'
    by_cases q7 : y.toNat = 112
    case neg =>
      have q7' : ((y.toNat : Int) != 112) = true := by simp; omega
      have Q := Lib.hid q7; clear q7
      go_quiet (first
        | (go_at_call 85; first | with_reducible exact K1.out _ | with_reducible exact K2.out _ | with_reducible exact K3.out _ | with_reducible exact K5.out _)
        | (go_at_call 89; with_reducible exact K4.out _))
      go_wp2_with fail
      go_ret
      exact ⟨ret_b (by rw [HGC.out]; simp [Q.out]), Ext.drewN _ _⟩
    have q7' : ((y.toNat : Int) != 112) = false := by simp; omega
    have q8' : ((y.toNat : Int) == 0) = false := by simp; omega
    have hgd : goodS s k = zerosFrom s (12 + y.toNat) := by
      rw [HGC.out, decide_eq_false Q1.out, decide_eq_true Q2.out, decide_eq_true Q3.out, decide_eq_true Q4.out, decide_eq_true (show y.toNat ≤ 112 by omega), decide_eq_true q7]; rfl
    have HGD := Lib.hid hgd; clear hgd HGC
    go_quiet (first
      | (go_at_call 85; first | with_reducible exact K1.out _ | with_reducible exact K2.out _ | with_reducible exact K3.out _ | with_reducible exact K5.out _)
      | (go_at_call 89; with_reducible exact K4.out _))
    go_wp2_with fail
    go_loop [6] (fun i => ∃ m : Nat, 12 + y.toNat ≤ m ∧ m ≤ 124 ∧ i = .int .i64 m ∧ ∀ j, j < m → 12 + y.toNat ≤ j → s.getD j 0 = 0) (fun i => 124 - (intOf i).toNat)
    case atStart => exact ⟨12 + y.toNat, Nat.le_refl _, by omega, by go_num, fun j h1 h2 => absurd h1 (by omega)⟩
    case round =>
      obtain ⟨m, hm1, hm2, rfl, hz⟩ := hrel
      have HZ := Lib.hid hz; clear hz
      have hm0 : (0 : Int) ≤ m := by omega
      by_cases hlt : m < 124
      · obtain ⟨b', o', e, -, cm⟩ := H.out.elem (k := m) (by have := HL1.out; omega)
        cases e
        have hgm : s.getD m 0 = s[m]'(by have := HL1.out; omega) := by rw [List.getD_eq_getElem?_getD, List.getElem?_eq_getElem]; rfl
        have HGM := Lib.hid hgm; clear hgm
        generalize s[m]'(by have := HL1.out; omega) = z at *
        have hmi : (m : Int) < 124 := by omega
        have hmi2 : (m : Int) < s.length := by omega
        have hzl := z.toNat_lt
        by_cases hzz : z = 0
        · have HZZ := Lib.hid hzz
          have hd : ((z.toNat : Int) != 0) = false := by rw [hzz]; rfl
          clear hzz
          go_wp2_with fail
          go_round
          case rel => exact ⟨m + 1, by omega, by omega, by go_num, fun j h1 h2 => by
            rcases Nat.lt_or_ge j m with h | h
            · exact HZ.out j h h2
            · obtain rfl : j = m := by omega
              rw [HGM.out, HZZ.out]⟩
          case measure => simp [intOf]; omega
        · have HZZ := Lib.hid hzz
          have hd : ((z.toNat : Int) != 0) = true := by
            simp; intro h; exact hzz (UInt8.toNat_inj.1 (by simpa using h))
          clear hzz
          go_wp2_with fail
          go_ret
          exact ⟨ret_b (by rw [HGD.out, zerosFrom_false (j := m) hlt hm1 (by rw [HGM.out]; exact HZZ.out)]), Ext.drewN _ _⟩
      · obtain rfl : m = 124 := by omega
        go_wp2_with fail
        go_ret
        exact ⟨ret_b (by rw [HGD.out, zerosFrom_true HZ.out]), Ext.drewN _ _⟩
  · have hxv : ((2 : UInt8).toNat : Int) = 2 := rfl
    rw [hxv] at c10 q5'
    by_cases q7 : y.toNat = 0
    case pos =>
      have q7' : ((y.toNat : Int) == 0) = true := by simp [q7]
      have Q := Lib.hid q7; clear q7
      go_quiet (first
        | (go_at_call 85; first | with_reducible exact K1.out _ | with_reducible exact K2.out _ | with_reducible exact K3.out _ | with_reducible exact K5.out _)
        | (go_at_call 89; with_reducible exact K4.out _))
      go_wp2_with fail
      go_ret
      exact ⟨ret_b (by rw [HGC.out]; simp [Q.out]), Ext.drewN _ _⟩
    have q8' : ((y.toNat : Int) == 0) = false := by simp; omega
    have hgd : goodS s k = zerosFrom s (12 + y.toNat) := by
      rw [HGC.out, decide_eq_false Q1.out, decide_eq_true Q2.out, decide_eq_true Q3.out, decide_eq_true Q4.out, decide_eq_true (show y.toNat ≤ 112 by omega), decide_eq_false (show ¬ y.toNat = 0 by omega)]; rfl
    have HGD := Lib.hid hgd; clear hgd HGC
    go_quiet (first
      | (go_at_call 85; first | with_reducible exact K1.out _ | with_reducible exact K2.out _ | with_reducible exact K3.out _ | with_reducible exact K5.out _)
      | (go_at_call 89; with_reducible exact K4.out _))
    go_wp2_with fail
    go_loop [6] (fun i => ∃ m : Nat, 12 + y.toNat ≤ m ∧ m ≤ 124 ∧ i = .int .i64 m ∧ ∀ j, j < m → 12 + y.toNat ≤ j → s.getD j 0 = 0) (fun i => 124 - (intOf i).toNat)
    case atStart => exact ⟨12 + y.toNat, Nat.le_refl _, by omega, by go_num, fun j h1 h2 => absurd h1 (by omega)⟩
    case round =>
      obtain ⟨m, hm1, hm2, rfl, hz⟩ := hrel
      have HZ := Lib.hid hz; clear hz
      have hm0 : (0 : Int) ≤ m := by omega
      by_cases hlt : m < 124
      · obtain ⟨b', o', e, -, cm⟩ := H.out.elem (k := m) (by have := HL1.out; omega)
        cases e
        have hgm : s.getD m 0 = s[m]'(by have := HL1.out; omega) := by rw [List.getD_eq_getElem?_getD, List.getElem?_eq_getElem]; rfl
        have HGM := Lib.hid hgm; clear hgm
        generalize s[m]'(by have := HL1.out; omega) = z at *
        have hmi : (m : Int) < 124 := by omega
        have hmi2 : (m : Int) < s.length := by omega
        have hzl := z.toNat_lt
        by_cases hzz : z = 0
        · have HZZ := Lib.hid hzz
          have hd : ((z.toNat : Int) != 0) = false := by rw [hzz]; rfl
          clear hzz
          go_wp2_with fail
          go_round
          case rel => exact ⟨m + 1, by omega, by omega, by go_num, fun j h1 h2 => by
            rcases Nat.lt_or_ge j m with h | h
            · exact HZ.out j h h2
            · obtain rfl : j = m := by omega
              rw [HGM.out, HZZ.out]⟩
          case measure => simp [intOf]; omega
        · have HZZ := Lib.hid hzz
          have hd : ((z.toNat : Int) != 0) = true := by
            simp; intro h; exact hzz (UInt8.toNat_inj.1 (by simpa using h))
          clear hzz
          go_wp2_with fail
          go_ret
          exact ⟨ret_b (by rw [HGD.out, zerosFrom_false (j := m) hlt hm1 (by rw [HGM.out]; exact HZZ.out)]), Ext.drewN _ _⟩
      · obtain rfl : m = 124 := by omega
        go_wp2_with fail
        go_ret
        exact ⟨ret_b (by rw [HGD.out, zerosFrom_true HZ.out]), Ext.drewN _ _⟩
  · have hxv : ((3 : UInt8).toNat : Int) = 3 := rfl
    rw [hxv] at c10 q5'
    have hgd : goodS s k = zerosFrom s (12 + y.toNat) := by
      rw [HGC.out, decide_eq_false Q1.out, decide_eq_true Q2.out, decide_eq_true Q3.out, decide_eq_true Q4.out, decide_eq_true (show y.toNat ≤ 112 by omega)]; rfl
    have HGD := Lib.hid hgd; clear hgd HGC
    go_quiet (first
      | (go_at_call 85; first | with_reducible exact K1.out _ | with_reducible exact K2.out _ | with_reducible exact K3.out _ | with_reducible exact K5.out _)
      | (go_at_call 89; with_reducible exact K4.out _))
    go_wp2_with fail
    go_loop [6] (fun i => ∃ m : Nat, 12 + y.toNat ≤ m ∧ m ≤ 124 ∧ i = .int .i64 m ∧ ∀ j, j < m → 12 + y.toNat ≤ j → s.getD j 0 = 0) (fun i => 124 - (intOf i).toNat)
    case atStart => exact ⟨12 + y.toNat, Nat.le_refl _, by omega, by go_num, fun j h1 h2 => absurd h1 (by omega)⟩
    case round =>
      obtain ⟨m, hm1, hm2, rfl, hz⟩ := hrel
      have HZ := Lib.hid hz; clear hz
      have hm0 : (0 : Int) ≤ m := by omega
      by_cases hlt : m < 124
      · obtain ⟨b', o', e, -, cm⟩ := H.out.elem (k := m) (by have := HL1.out; omega)
        cases e
        have hgm : s.getD m 0 = s[m]'(by have := HL1.out; omega) := by rw [List.getD_eq_getElem?_getD, List.getElem?_eq_getElem]; rfl
        have HGM := Lib.hid hgm; clear hgm
        generalize s[m]'(by have := HL1.out; omega) = z at *
        have hmi : (m : Int) < 124 := by omega
        have hmi2 : (m : Int) < s.length := by omega
        have hzl := z.toNat_lt
        by_cases hzz : z = 0
        · have HZZ := Lib.hid hzz
          have hd : ((z.toNat : Int) != 0) = false := by rw [hzz]; rfl
          clear hzz
          go_wp2_with fail
          go_round
          case rel => exact ⟨m + 1, by omega, by omega, by go_num, fun j h1 h2 => by
            rcases Nat.lt_or_ge j m with h | h
            · exact HZ.out j h h2
            · obtain rfl : j = m := by omega
              rw [HGM.out, HZZ.out]⟩
          case measure => simp [intOf]; omega
        · have HZZ := Lib.hid hzz
          have hd : ((z.toNat : Int) != 0) = true := by
            simp; intro h; exact hzz (UInt8.toNat_inj.1 (by simpa using h))
          clear hzz
          go_wp2_with fail
          go_ret
          exact ⟨ret_b (by rw [HGD.out, zerosFrom_false (j := m) hlt hm1 (by rw [HGM.out]; exact HZZ.out)]), Ext.drewN _ _⟩
      · obtain rfl : m = 124 := by omega
        go_wp2_with fail
        go_ret
        exact ⟨ret_b (by rw [HGD.out, zerosFrom_true HZ.out]), Ext.drewN _ _⟩
end Go.Proofs.Ytpciankfpagnhaa

/- Both functions agree on which sectors are good. -/
namespace Go.Proofs.Ytpciankfpagnhaa

section
variable {A C K D G : List UInt8} {x y : UInt8}
theorem parts {s : List UInt8} (h : s.length = 128) : ∃ A C K D G : List UInt8, ∃ x y : UInt8, s = A ++ (C ++ (K ++ (x :: y :: (D ++ G)))) ∧ A.length = 4 ∧ C.length = 4 ∧ K.length = 2 ∧ D.length = 112 ∧ G.length = 4 := by
  refine ⟨s.take 4, (s.drop 4).take 4, (s.drop 8).take 2, (s.drop 12).take 112, s.drop 124, s[10], s[11], ?_, by simp; omega, by simp; omega, by simp; omega, by simp; omega, by simp; omega⟩
  have e12 : s.drop 12 = (s.drop 12).take 112 ++ s.drop 124 := by
    have := (List.take_append_drop 112 (s.drop 12)).symm
    rwa [List.drop_drop] at this
  have e11 : s.drop 11 = s[11] :: s.drop 12 := List.drop_eq_getElem_cons (by omega)
  have e10 : s.drop 10 = s[10] :: s.drop 11 := List.drop_eq_getElem_cons (by omega)
  have e8 : s.drop 8 = (s.drop 8).take 2 ++ s.drop 10 := by
    have := (List.take_append_drop 2 (s.drop 8)).symm
    rwa [List.drop_drop] at this
  have e4 : s.drop 4 = (s.drop 4).take 4 ++ s.drop 8 := by
    have := (List.take_append_drop 4 (s.drop 4)).symm
    rwa [List.drop_drop] at this
  have e0 := (List.take_append_drop 4 s).symm
  rw [← e12, ← e11, ← e10, ← e8, ← e4]
  exact e0
variable (hA : A.length = 4) (hC : C.length = 4) (hK : K.length = 2) (hD : D.length = 112) (hG : G.length = 4)
include hA in
theorem p_take4 (R : List UInt8) : (A ++ R).take 4 = A := by rw [List.take_left' hA]
include hA in
theorem p_drop4 (R : List UInt8) : (A ++ R).drop 4 = R := by rw [List.drop_left' hA]
include hA hC in
theorem p_drop8 (R : List UInt8) : (A ++ (C ++ R)).drop 8 = R := by
  rw [show (8 : Nat) = 4 + 4 from rfl, ← List.drop_drop, p_drop4 hA, p_drop4 hC]
include hA hC hK in
theorem p_drop10 (R : List UInt8) : (A ++ (C ++ (K ++ R))).drop 10 = R := by
  rw [show (10 : Nat) = 8 + 2 from rfl, ← List.drop_drop, p_drop8 hA hC, List.drop_left' hK]
include hA hC hK in
theorem p_drop12 (R : List UInt8) : (A ++ (C ++ (K ++ (x :: y :: R)))).drop 12 = R := by
  rw [show (12 : Nat) = 10 + 2 from rfl, ← List.drop_drop, p_drop10 hA hC hK]; rfl
include hA hC hK hD in
theorem p_drop124 (R : List UInt8) : (A ++ (C ++ (K ++ (x :: y :: (D ++ R))))).drop 124 = R := by
  rw [show (124 : Nat) = 12 + 112 from rfl, ← List.drop_drop, p_drop12 hA hC hK, List.drop_left' hD]
include hA hC hK in
theorem p_get10 (R : List UInt8) : (A ++ (C ++ (K ++ (x :: y :: R)))).getD 10 0 = x := by
  have := p_drop10 hA hC hK (x :: y :: R)
  have h2 := congrArg (fun l : List UInt8 => l[0]?) this
  simp only [List.getElem?_drop] at h2
  rw [List.getD_eq_getElem?_getD, h2]; rfl
include hA hC hK in
theorem p_get11 (R : List UInt8) : (A ++ (C ++ (K ++ (x :: y :: R)))).getD 11 0 = y := by
  have := p_drop10 hA hC hK (x :: y :: R)
  have h2 := congrArg (fun l : List UInt8 => l[1]?) this
  simp only [List.getElem?_drop] at h2
  rw [List.getD_eq_getElem?_getD, h2]; rfl
include hA hC hK hD in
theorem p_zeros (m : Nat) (hm : m ≤ 112) : zerosFrom (A ++ (C ++ (K ++ (x :: y :: (D ++ G))))) (12 + m) = decide (D.drop m = List.replicate (112 - m) 0) := by
  rw [Bool.eq_iff_iff, decide_eq_true_eq]
  have hget : ∀ i, i < 112 → (A ++ (C ++ (K ++ (x :: y :: (D ++ G))))).getD (12 + i) 0 = D.getD i 0 := fun i hi => by
    have := p_drop12 (x := x) (y := y) hA hC hK (D ++ G)
    have h2 := congrArg (fun l : List UInt8 => l[i]?) this
    simp only [List.getElem?_drop] at h2
    rw [List.getD_eq_getElem?_getD, h2, List.getElem?_append_left (by omega), ← List.getD_eq_getElem?_getD]
  constructor
  · intro h
    unfold zerosFrom at h
    rw [List.all_eq_true] at h
    apply List.ext_getElem
    · simp; omega
    · intro j h1 h2
      simp at h1
      have := h (12 + (m + j)) (List.mem_range.2 (by omega))
      rw [hget _ (by omega)] at this
      simp only [Bool.or_eq_true, decide_eq_true_eq] at this
      rcases this with h' | h'
      · omega
      · have h'' : D.getD (m + j) 0 = 0 := by simpa using h'
        rw [List.getD_eq_getElem?_getD, List.getElem?_eq_getElem (by omega)] at h''
        simpa using h''
  · intro h
    refine zerosFrom_true fun j h1 h2 => ?_
    obtain ⟨i, rfl⟩ : ∃ i, j = 12 + i := ⟨j - 12, by omega⟩
    rw [hget _ (by omega)]
    have h3 := congrArg (fun l : List UInt8 => l[i - m]?) h
    simp only [List.getElem?_drop] at h3
    rw [show m + (i - m) = i by omega, List.getElem?_replicate, if_pos (by omega)] at h3
    rw [List.getD_eq_getElem?_getD, h3]; rfl

theorem app_inj4 {a b c d : List UInt8} (h : a.length = c.length) : a ++ b = c ++ d ↔ a = c ∧ b = d := by
  constructor
  · intro e; exact List.append_inj e h
  · rintro ⟨rfl, rfl⟩; rfl
end

theorem goodC_eq (s : List UInt8) (k : Nat) (hs : s.length = 128) (hk : k < 65536) : goodC s k = goodS s k := by
  obtain ⟨A, C, K, D, G, x, y, rfl, hA, hC, hK, hD, hG⟩ := parts hs
  have hl : (A ++ (C ++ (K ++ (x :: y :: (D ++ G))))).length - 124 = 4 := by rw [hs]
  rw [goodC_def, goodS_def, p_get10 hA hC hK, p_get11 hA hC hK, p_take4 hA, p_drop12 hA hC hK, p_drop124 hA hC hK hD, p_drop4 hA, p_take4 hC, p_drop8 hA hC, hl, List.take_of_length_le (show G.length ≤ 4 by omega)]
  have h116 : (K ++ x :: y :: (D ++ G)).take 116 = K ++ x :: y :: D := by
    have : (K ++ x :: y :: D).length = 116 := by simp; omega
    rw [show K ++ x :: y :: (D ++ G) = (K ++ x :: y :: D) ++ G by simp, List.take_left' this]
  have h2 : (K ++ x :: y :: (D ++ G)).take 2 = K := List.take_left' hK
  rw [h116, h2]
  by_cases hy : y.toNat ≤ 112
  case neg => simp [hy]
  by_cases hx : x.toNat ≤ 3
  case neg => simp [hx]
  rw [p_zeros hA hC hK hD _ hy, List.take_append_of_le_length (by omega)]
  have hpl : (D.take y.toNat).length = y.toNat := by simp; omega
  have hyo : UInt8.ofNat y.toNat = y := by simp
  have hbe : be 4 (num A) = A := by have := be_of_num A; rwa [hA] at this
  have key : (A ++ (C ++ (K ++ (x :: y :: (D ++ G)))) = sect (num A) k x (D.take y.toNat)) ↔ (C = be 4 (crc (sBody k x (D.take y.toNat))) ∧ K = be 2 k ∧ D.drop y.toNat = List.replicate (112 - y.toNat) 0 ∧ G = A) := by
    unfold sect sBody
    rw [hpl, hyo, hbe]
    simp only [List.append_assoc, List.cons_append, List.nil_append]
    rw [app_inj4 rfl, app_inj4 (by rw [hC, be_length]), app_inj4 (by rw [hK, be_length])]
    simp only [List.cons.injEq, true_and]
    have hDs : D ++ G = D.take y.toNat ++ (D.drop y.toNat ++ G) := by rw [← List.append_assoc, List.take_append_drop]
    rw [hDs, app_inj4 rfl, app_inj4 (by simp; omega)]
    simp
  have hbody : K = be 2 k → D.drop y.toNat = List.replicate (112 - y.toNat) 0 → sBody k x (D.take y.toNat) = K ++ x :: y :: D := by
    intro e1 e2
    unfold sBody
    rw [hpl, hyo, ← e1, ← e2]
    simp
  have hnumC : ∀ n, n < 4294967296 → (C = be 4 n ↔ num C = n) := fun n hn => by
    constructor
    · intro e; rw [e, be_num]; exact Nat.mod_eq_of_lt hn
    · intro e; rw [← e]; have := be_of_num C; rw [hC] at this; exact this.symm
  have hnumK : K = be 2 k ↔ num K = k := by
    constructor
    · intro e; rw [e, be_num]; exact Nat.mod_eq_of_lt hk
    · intro e; rw [← e]; have := be_of_num K; rw [hK] at this; exact this.symm
  have hnumG : G = A ↔ num A = num G := ⟨fun e => by rw [e], fun e => (num_inj (by rw [hA, hG]) e).symm⟩
  rw [Bool.eq_iff_iff]
  simp only [Bool.and_eq_true, decide_eq_true_eq, Bool.not_eq_true', Bool.and_eq_false_iff, decide_eq_false_iff_not, Bool.not_eq_false', key, hy, hx, true_and, and_true]
  constructor
  · rintro ⟨⟨⟨c1, c2⟩, c3⟩, e1, e2, e3, e4⟩
    refine ⟨⟨⟨⟨⟨⟨by omega, hnumG.1 e4⟩, ?_⟩, hnumK.1 e2⟩, ?_⟩, c2⟩, e3⟩
    · rw [← hbody e2 e3]; exact (hnumC _ (crc_lt _)).1 e1
    · rcases c1 with c1 | c1
      · exact .inl c1
      · exact .inr (by omega)
  · rintro ⟨⟨⟨⟨⟨⟨c0, d1⟩, d2⟩, d3⟩, d4⟩, d5⟩, d6⟩
    have e2 := hnumK.2 d3
    refine ⟨⟨⟨?_, d5⟩, by omega⟩, ?_, e2, d6, hnumG.2 d1⟩
    · rcases d4 with c1 | c1
      · exact .inl c1
      · exact .inr (by omega)
    · rw [hbody e2 d6]; exact (hnumC _ (crc_lt _)).2 d2
end Go.Proofs.Ytpciankfpagnhaa

/- The records on sectors: plain functions. -/
namespace Go.Proofs.Ytpciankfpagnhaa

def gen (s : List UInt8) : Nat := num (s.take 4)
def begS (s : List UInt8) : Bool := decide ((s.getD 10 0).toNat % 2 = 1)
def endS (s : List UInt8) : Bool := decide (2 ≤ (s.getD 10 0).toNat)
def pieceS (s : List UInt8) : List UInt8 := (s.drop 12).take (s.getD 11 0).toNat
/-- A record that goes on at sector k, with what has been read of it. -/
def recGo (g : Nat) : Nat → Bool → List UInt8 → List (List UInt8) → Option (List UInt8 × Nat)
  | _, _, _, [] => none
  | k, first, acc, s :: rest =>
    if (goodS s k && (begS s == first) && decide (gen s = g)) = true then (if endS s = true then some (acc ++ pieceS s, k + 1) else recGo g (k + 1) false (acc ++ pieceS s) rest) else none
/-- The record that begins at a sector, and the sector behind it. -/
def recAt (l : List (List UInt8)) (at_ : Nat) : Option (List UInt8 × Nat) := recGo (gen (l.getD at_ [])) at_ true [] (l.drop at_)
theorem recGo_lt {g : Nat} : ∀ {r : List (List UInt8)} {k : Nat} {f : Bool} {acc b : List UInt8} {k' : Nat}, recGo g k f acc r = some (b, k') → k < k' ∧ k' ≤ k + r.length
  | [], _, _, _, _, _, h => by cases h
  | s :: rest, k, f, acc, b, k', h => by
    unfold recGo at h
    split at h
    · split at h
      · cases h; simp
      · have := recGo_lt h; simp only [List.length_cons]; omega
    · cases h
theorem recAt_lt {l : List (List UInt8)} {at_ : Nat} {b : List UInt8} {k' : Nat} (h : recAt l at_ = some (b, k')) : at_ < k' ∧ k' ≤ l.length ∧ at_ < l.length := by
  have := recGo_lt h
  simp at this
  omega
/-- The records from a sector on, of no lesser generation. -/
def recsFrom (l : List (List UInt8)) (at_ last : Nat) : List (List UInt8) :=
  match _h : recAt l at_ with
  | none => []
  | some (b, at') => if gen (l.getD at_ []) < last then [] else b :: recsFrom l at' (gen (l.getD at_ []))
termination_by l.length - at_
decreasing_by have := recAt_lt _h; omega
def recs (l : List (List UInt8)) : List (List UInt8) := recsFrom l 0 0
theorem recsFrom_none {l : List (List UInt8)} {at_ last : Nat} (h : recAt l at_ = none) : recsFrom l at_ last = [] := by
  rw [recsFrom]
  split
  · rfl
  · rename_i b k e; rw [h] at e; cases e
theorem recsFrom_less {l : List (List UInt8)} {at_ last : Nat} (h : gen (l.getD at_ []) < last) : recsFrom l at_ last = [] := by
  rw [recsFrom]
  split
  · rfl
  · rw [if_pos h]
theorem recsFrom_some {l : List (List UInt8)} {at_ last : Nat} {b : List UInt8} {k : Nat} (h : recAt l at_ = some (b, k)) (hl : last ≤ gen (l.getD at_ [])) : recsFrom l at_ last = b :: recsFrom l k (gen (l.getD at_ [])) := by
  rw [recsFrom]
  split
  · rename_i e; rw [h] at e; cases e
  · rename_i b' k' e
    rw [h] at e; cases e
    rw [if_neg (by omega)]
end Go.Proofs.Ytpciankfpagnhaa
