/- What get, number, sum and checksum compute. -/
import Derived.Test.YtpciankfpagnhaaJ1
import Derived.Test.YtpciankfpagnhaaM1
import Derived.Test.YtpciankfpagnhaaD4
namespace Go.Proofs.Ytpciankfpagnhaa
open Go.RowKit

theorem wraps_u64 (n : Int) (h₀ : 0 ≤ n) (h₁ : n < 2 ^ 64) : IntKind.u64.wrap n = n := by
  simp [IntKind.wrap, IntKind.bits, IntKind.signed]; omega
theorem wraps_u32 (n : Int) (h₀ : 0 ≤ n) (h₁ : n < 2 ^ 32) : IntKind.u32.wrap n = n := by
  simp [IntKind.wrap, IntKind.bits, IntKind.signed]; omega
theorem or_byte (u : Nat) (x : UInt8) (hu : u < 72057594037927936) : bits .or .u64 ((u : Int) * 256) (x.toNat : Int) = ((256 * u + x.toNat : Nat) : Int) := by
  have hx := x.toNat_lt
  rw [bits_join .u64 64 (by decide) wraps_u64 8 _ _ (by omega) (by omega) (by omega) (by omega) (by omega) (by omega)]
  omega
theorem xor_u32 (a b : Nat) (ha : a < 4294967296) (hb : b < 4294967296) : bits .xor .u32 (a : Int) (b : Int) = ((a ^^^ b : Nat) : Int) := by
  have ha' : a % 2 ^ 32 = a := Nat.mod_eq_of_lt ha
  have hb' : b % 2 ^ 32 = b := Nat.mod_eq_of_lt hb
  have hc : IntKind.u32.bits = 32 := rfl
  have : a ^^^ b < 2 ^ 32 := Nat.xor_lt_two_pow ha hb
  simp only [bits, hc, BitVec.ofInt_natCast, BitVec.toNat_xor, BitVec.toNat_ofNat, ha', hb']
  exact wraps_u32 _ (by omega) (by exact_mod_cast this)
theorem and1_u32 (a : Nat) (ha : a < 4294967296) : bits .and .u32 (a : Int) 1 = ((a % 2 : Nat) : Int) := by
  have := bits_mask .u32 32 (by decide) wraps_u32 1 (by decide) (a : Int) (by omega) (by omega)
  rw [show (2 : Int) ^ 1 - 1 = 1 by decide, show (2 : Int) ^ 1 = 2 by decide] at this
  rw [this]; omega

set_option maxRecDepth 100000 in
set_option maxHeartbeats 400000 in
theorem get_ok {S : Nat → Prop} (w : World) (v : Value) (l : List UInt8) (h : Bs S w v l) (hl : l.length ≤ 8) :
    Calls Try.prog 71 #[v] w fun e w' => e = .returned (.int .u64 (num l : Int)) ∧ w = w' := by
  obtain ⟨a, c, rfl, hc, hm⟩ := h.open
  have H := Lib.hid h; clear h
  go_enter Try.func71, Try.ntmps71
  go_wp2
  go_loop [2, 7] (fun n i => ∃ k : Nat, k ≤ l.length ∧ i = .int .i64 k ∧ n = .int .u64 (num (l.take k) : Int)) (fun _ i => l.length - (intOf i).toNat)
  case atStart => exact ⟨0, Nat.zero_le _, rfl, rfl⟩
  case round =>
    obtain ⟨k, hk, rfl, rfl⟩ := hrel
    by_cases hlt : k < l.length
    · obtain ⟨b, o, rfl, hb, h0⟩ := H.out.elem hlt
      have hts := num_snoc (l.take k) l[k]
      rw [← List.take_succ_eq_append_getElem hlt] at hts
      have HT := Lib.hid hts; clear hts
      have hn := num_lt (l.take k)
      rw [List.length_take, Nat.min_eq_left (by omega)] at hn
      have hp : (256 : Nat) ^ k ≤ 256 ^ 7 := Nat.pow_le_pow_right (by decide) (by omega)
      have hn' : num (l.take k) < 72057594037927936 := by omega
      clear hn hp
      have hx := l[k].toNat_lt
      generalize l[k] = x at *
      generalize num (l.take k) = u at *
      have hi1 : (k : Int) < l.length := by omega
      have hi0 : (0 : Int) ≤ k := by omega
      go_wp2_with fail
      go_round
      case rel => exact ⟨k + 1, by omega, by go_num, by rw [HT.out, or_byte _ _ hn']⟩
      case measure => simp [intOf]; omega
    · obtain rfl : l.length = k := by omega
      go_wp2_with fail
      go_ret
      exact ⟨by simp, rfl⟩

set_option maxRecDepth 100000 in
set_option maxHeartbeats 400000 in
theorem number_ok {S : Nat → Prop} (w : World) (v : Value) (l : List UInt8) (h : Bs S w v l) (hl : l.length ≤ 8) :
    Calls Try.prog 85 #[v] w fun e w' => e = .returned (.int .u64 (num l : Int)) ∧ w = w' := by
  obtain ⟨a, c, rfl, hc, hm⟩ := h.open
  have H := Lib.hid h; clear h
  go_enter Try.func85, Try.ntmps85
  go_wp2
  go_loop [3, 4] (fun n i => ∃ k : Nat, k ≤ l.length ∧ i = .int .i64 k ∧ n = .int .u64 (num (l.take k) : Int)) (fun _ i => l.length - (intOf i).toNat)
  case atStart => exact ⟨0, Nat.zero_le _, rfl, rfl⟩
  case round =>
    obtain ⟨k, hk, rfl, rfl⟩ := hrel
    by_cases hlt : k < l.length
    · obtain ⟨b, o, rfl, hb, h0⟩ := H.out.elem hlt
      have hts := num_snoc (l.take k) l[k]
      rw [← List.take_succ_eq_append_getElem hlt] at hts
      have HT := Lib.hid hts; clear hts
      have hn := num_lt (l.take k)
      rw [List.length_take, Nat.min_eq_left (by omega)] at hn
      have hp : (256 : Nat) ^ k ≤ 256 ^ 7 := Nat.pow_le_pow_right (by decide) (by omega)
      have hn' : num (l.take k) < 72057594037927936 := by omega
      clear hn hp
      have hx := l[k].toNat_lt
      generalize l[k] = x at *
      generalize num (l.take k) = u at *
      have hi1 : (k : Int) < l.length := by omega
      have hi0 : (0 : Int) ≤ k := by omega
      go_wp2_with fail
      go_round
      case rel => exact ⟨k + 1, by omega, by go_num, by rw [HT.out]; congr 1⟩
      case measure => simp [intOf]; omega
    · obtain rfl : l.length = k := by omega
      go_wp2_with fail
      go_ret
      exact ⟨by simp, rfl⟩

theorem ret_u32 {x y : Int} (h : x = y) : Ending.returned (.int .u32 x) = .returned (.int .u32 y) := by rw [h]
set_option maxRecDepth 100000 in
set_option maxHeartbeats 400000 in
theorem sum_ok {S : Nat → Prop} (w : World) (v : Value) (l : List UInt8) (h : Bs S w v l) :
    Calls Try.prog 87 #[v] w fun e w' => e = .returned (.int .u32 (crc l : Int)) ∧ w = w' := by
  obtain ⟨a, c, rfl, hc, hm⟩ := h.open
  have H := Lib.hid h; clear h
  go_enter Try.func87, Try.ntmps87
  go_wp2
  go_loop [3, 8] (fun n i => ∃ k : Nat, k ≤ l.length ∧ i = .int .i64 k ∧ n = .int .u32 (crcU (l.take k) : Int)) (fun _ i => l.length - (intOf i).toNat)
  case atStart => exact ⟨0, Nat.zero_le _, rfl, rfl⟩
  case round =>
    obtain ⟨k, hk, rfl, rfl⟩ := hrel
    by_cases hlt : k < l.length
    · obtain ⟨b, o, rfl, hb, h0⟩ := H.out.elem hlt
      have hts := crcU_snoc (l.take k) l[k]
      rw [← List.take_succ_eq_append_getElem hlt] at hts
      have HT := Lib.hid hts; clear hts
      have hn := crcU_lt (l.take k)
      have hx := l[k].toNat_lt
      have hu := Nat.xor_lt_two_pow (n := 32) hn (show l[k].toNat < 2 ^ 32 by omega)
      have hxx := xor_u32 _ _ hn (show l[k].toNat < 4294967296 by omega)
      generalize l[k] = x at *
      generalize crcU (l.take k) = u at *
      have hi1 : (k : Int) < l.length := by omega
      have hi0 : (0 : Int) ≤ k := by omega
      go_wp2_with fail
      clear hxx
      generalize u ^^^ x.toNat = y at *
      go_loop [3, 16] (fun n i => ∃ m : Nat, m ≤ 8 ∧ i = .int .i64 m ∧ n = .int .u32 (crcN m y : Int)) (fun _ i => 8 - (intOf i).toNat)
      case atStart => exact ⟨0, Nat.zero_le _, rfl, rfl⟩
      case round =>
        obtain ⟨m, hm8, rfl, rfl⟩ := hrel
        have hz := crcN_lt m y hu
        by_cases hmlt : m < 8
        · have hs : crcN (m + 1) y = crc1 (crcN m y) := rfl
          have HS := Lib.hid hs; clear hs
          generalize crcN m y = z at *
          have hmi : (m : Int) < 8 := by omega
          have ha := and1_u32 z hz
          have hq := xor_u32 (z / 2) (3988292384 * (z % 2)) (by omega) (by omega)
          have hq' : bits .xor .u32 ((z : Int) / 2) (3988292384 * ((z : Int) % 2)) = ((crc1 z : Nat) : Int) := by rw [crc1, ← hq]; congr 1 
          clear hq
          go_wp2_with fail
          go_round
          case rel => exact ⟨m + 1, by omega, by go_num, by rw [HS.out]⟩
          case measure => simp [intOf]; omega
        · obtain rfl : m = 8 := by omega
          go_wp2_with fail
          go_round
          case rel => exact ⟨k + 1, by omega, by go_num, by rw [HT.out]⟩
          case measure => simp [intOf]; omega
    · obtain rfl : l.length = k := by omega
      have hx := xor_u32 4294967295 (crcU l) (by decide) (crcU_lt l)
      rw [Nat.xor_comm] at hx
      have HX := Lib.hid hx; clear hx
      go_wp2_with fail
      all_goals try (rename_i hsg; exact absurd hsg (by decide))
      go_ret
      exact ⟨ret_u32 HX.out, rfl⟩

theorem crc1_odd {n : Nat} (h : n % 2 = 1) : crc1 n = (n / 2) ^^^ 3988292384 := by unfold crc1; rw [h]
theorem crc1_even {n : Nat} (h : n % 2 = 0) : crc1 n = n / 2 := by unfold crc1; rw [h]; simp
set_option maxRecDepth 100000 in
set_option maxHeartbeats 400000 in
theorem checksum_ok {S : Nat → Prop} (w : World) (v : Value) (l : List UInt8) (h : Bs S w v l) :
    Calls Try.prog 89 #[v] w fun e w' => e = .returned (.int .u32 (crc l : Int)) ∧ w = w' := by
  obtain ⟨a, c, rfl, hc, hm⟩ := h.open
  have H := Lib.hid h; clear h
  go_enter Try.func89, Try.ntmps89
  go_wp2
  go_loop [3, 4] (fun n i => ∃ k : Nat, k ≤ l.length ∧ i = .int .i64 k ∧ n = .int .u32 (crcU (l.take k) : Int)) (fun _ i => l.length - (intOf i).toNat)
  case atStart => exact ⟨0, Nat.zero_le _, rfl, rfl⟩
  case round =>
    obtain ⟨k, hk, rfl, rfl⟩ := hrel
    by_cases hlt : k < l.length
    · obtain ⟨b, o, rfl, hb, h0⟩ := H.out.elem hlt
      have hts := crcU_snoc (l.take k) l[k]
      rw [← List.take_succ_eq_append_getElem hlt] at hts
      have HT := Lib.hid hts; clear hts
      have hn := crcU_lt (l.take k)
      have hx := l[k].toNat_lt
      have hu := Nat.xor_lt_two_pow (n := 32) hn (show l[k].toNat < 2 ^ 32 by omega)
      have hxx := xor_u32 _ _ hn (show l[k].toNat < 4294967296 by omega)
      generalize l[k] = x at *
      generalize crcU (l.take k) = u at *
      have hi1 : (k : Int) < l.length := by omega
      have hi0 : (0 : Int) ≤ k := by omega
      go_wp2_with fail
      clear hxx
      generalize u ^^^ x.toNat = y at *
      go_loop [3, 5] (fun n i => ∃ m : Nat, m ≤ 8 ∧ i = .int .i64 m ∧ n = .int .u32 (crcN m y : Int)) (fun _ i => 8 - (intOf i).toNat)
      case atStart => exact ⟨0, Nat.zero_le _, rfl, rfl⟩
      case round =>
        obtain ⟨m, hm8, rfl, rfl⟩ := hrel
        have hz := crcN_lt m y hu
        by_cases hmlt : m < 8
        · have hs : crcN (m + 1) y = crc1 (crcN m y) := rfl
          have HS := Lib.hid hs; clear hs
          generalize crcN m y = z at *
          have hmi : (m : Int) < 8 := by omega
          by_cases hodd : z % 2 = 1
          · have HO := Lib.hid (crc1_odd hodd)
            have hd : ((z : Int) % 2 == 1) = true := by simp; omega
            clear hodd
            have hq := xor_u32 (z / 2) 3988292384 (by omega) (by omega)
            have hq' : bits .xor .u32 ((z : Int) / 2) 3988292384 = ((crc1 z : Nat) : Int) := by rw [HO.out, ← hq]; congr 1
            clear hq
            go_wp2_with fail
            go_round
            case rel => exact ⟨m + 1, by omega, by go_num, by rw [HS.out]⟩
            case measure => simp [intOf]; omega
          · have HO := Lib.hid (crc1_even (show z % 2 = 0 by omega))
            have hd : ((z : Int) % 2 == 1) = false := by simp; omega
            clear hodd
            go_wp2_with fail
            go_round
            case rel => exact ⟨m + 1, by omega, by go_num, by rw [HS.out, HO.out]; congr 1⟩
            case measure => simp [intOf]; omega
        · obtain rfl : m = 8 := by omega
          go_wp2_with fail
          go_round
          case rel => exact ⟨k + 1, by omega, by go_num, by rw [HT.out]⟩
          case measure => simp [intOf]; omega
    · obtain rfl : l.length = k := by omega
      have hx := xor_u32 (crcU l) 4294967295 (crcU_lt l) (by decide)
      have HX := Lib.hid hx; clear hx
      go_wp2_with fail
      go_ret
      exact ⟨ret_u32 HX.out, rfl⟩
end Go.Proofs.Ytpciankfpagnhaa

/- What put, encode and numeral make. -/
namespace Go.Proofs.Ytpciankfpagnhaa
open Go.RowKit

/-- Cells, some of them replaced. -/
def lay (cs : List Value) (o : Nat) (xs : List Value) : List Value := cs.take o ++ xs ++ cs.drop (o + xs.length)
theorem lay_length (cs : List Value) (o : Nat) (xs : List Value) (h : o + xs.length ≤ cs.length) : (lay cs o xs).length = cs.length := by
  unfold lay; simp; omega
theorem lay_nil (cs : List Value) (o : Nat) : lay cs o [] = cs := by simp [lay]
theorem lay_cons (cs : List Value) (o : Nat) (x : Value) (xs : List Value) (h : o + 1 + xs.length ≤ cs.length) : (lay cs (o + 1) xs).set o x = lay cs o (x :: xs) := by
  unfold lay
  have h1 : (cs.take (o + 1)).length = o + 1 := by simp; omega
  have h2 : cs.take (o + 1) = cs.take o ++ [cs[o]'(by omega)] := List.take_succ_eq_append_getElem (by omega)
  rw [h2, List.append_assoc, List.append_assoc, List.set_append_right _ _ (by simp; omega)]
  have : o - (cs.take o).length = 0 := by simp; omega
  rw [this]
  simp only [List.cons_append, List.nil_append, List.set_cons_zero, List.length_cons]
  rw [show o + 1 + xs.length = o + (xs.length + 1) by omega, List.append_assoc, List.cons_append]
theorem be_get (m n k : Nat) (hk : k < m) : (be m n)[m - 1 - k]? = some (UInt8.ofNat (n / 256 ^ k % 256)) := by
  induction m generalizing n k with
  | zero => omega
  | succ m ih =>
    rw [be]
    cases k with
    | zero => rw [List.getElem?_append_right (by rw [be_length]; omega), be_length]; simp
    | succ k =>
      have : m + 1 - 1 - (k + 1) = m - 1 - k := by omega
      rw [this, List.getElem?_append_left (by rw [be_length]; omega), ih _ _ (by omega), Nat.div_div_eq_div_mul, Nat.pow_succ, Nat.mul_comm 256]
theorem be_drop (m n k : Nat) (hk : k < m) : (be m n).drop (m - 1 - k) = UInt8.ofNat (n / 256 ^ k % 256) :: (be m n).drop (m - k) := by
  have hl : m - 1 - k < (be m n).length := by rw [be_length]; omega
  rw [List.drop_eq_getElem_cons hl, show m - 1 - k + 1 = m - k by omega]
  have := be_get m n k hk
  rw [List.getElem?_eq_getElem hl] at this
  rw [Option.some.inj this]

set_option maxRecDepth 100000 in
set_option maxHeartbeats 400000 in
theorem put_ok (w : World) (B o m c n : Nat) (cs : List Value) (hB : Box w B cs) (hm : m ≤ 8) (hn : n < 18446744073709551616) (ho : o + m ≤ cs.length) (hmc : m ≤ c) :
    Calls Try.prog 86 #[.slice (some ⟨B, o, none⟩) m c, .int .u64 (n : Int)] w fun e w' => (∃ v, e = .returned v) ∧ Box w' B (lay cs o (bv (be m n))) ∧ Only B w w' := by
  go_enter Try.func86, Try.ntmps86
  go_wp2
  go_loopw [7] (fun i W => ∃ k : Nat, k ≤ m ∧ i = .int .i64 k ∧ Box W B (lay cs (o + (m - k)) (bv ((be m n).drop (m - k)))) ∧ Only B w W) (fun i _ => m - (intOf i).toNat)
  case atStart => exact ⟨0, Nat.zero_le _, rfl, by rw [Nat.sub_zero, List.drop_eq_nil_of_le (by rw [be_length]; omega)]; simpa [bv, lay_nil] using hB, ⟨rfl, rfl, rfl, rfl, fun _ _ => rfl⟩⟩
  case round =>
    obtain ⟨k, hk, rfl, hbx, honly⟩ := hrel
    by_cases hlt : k < m
    · have hi1 : (k : Int) < m := by omega
      have hdl : ((be m n).drop (m - k)).length = k := by rw [List.length_drop, be_length]; omega
      have hll : (lay cs (o + (m - k)) (bv ((be m n).drop (m - k)))).length = cs.length := lay_length _ _ _ (by rw [bv_length, hdl]; omega)
      obtain ⟨c0, f0⟩ := hbx.own (o + (m - 1 - k)) _ (List.getElem?_eq_getElem (by rw [hll]; omega))
      generalize (lay cs (o + (m - k)) (bv ((be m n).drop (m - k))))[o + (m - 1 - k)]'(by rw [hll]; omega) = v0 at c0
      have HN := Lib.hid hn; clear hn
      have hst := hbx.set (o + (m - 1 - k)) (.int .u8 ((n : Int) / 2 ^ (8 * k) % 256))
      have heq : (lay cs (o + (m - k)) (bv ((be m n).drop (m - k)))).set (o + (m - 1 - k)) (.int .u8 ((n : Int) / 2 ^ (8 * k) % 256)) = lay cs (o + (m - (k + 1))) (bv ((be m n).drop (m - (k + 1)))) := by
        rw [show m - (k + 1) = m - 1 - k by omega, be_drop m n k hlt, show o + (m - k) = o + (m - 1 - k) + 1 by omega, lay_cons _ _ _ _ (by rw [bv_length, hdl]; omega)]
        have : (UInt8.ofNat (n / 256 ^ k % 256)).toNat = n / 256 ^ k % 256 := by simp
        have e2 : (256 : Nat) ^ k = 2 ^ (8 * k) := by rw [Nat.pow_mul]
        rw [e2] at this ⊢
        simp only [bv, List.map_cons, this]
        congr 3
      rw [heq] at hst
      have HST := Lib.hid hst; clear hst heq hll hdl
      have ho' := honly.trans (only_setCell wr ⟨B, o + (m - 1 - k), none⟩ (.int .u8 ((n : Int) / 2 ^ (8 * k) % 256)))
      have HO := Lib.hid ho'; clear ho' honly hbx
      go_wp2_with fail
      go_round
      case rel => exact ⟨k + 1, by omega, by go_num, HST.out, HO.out⟩
      case measure => simp [intOf]; omega
    · obtain rfl : k = m := by omega
      go_wp2_with fail
      go_end0
      rw [Nat.sub_self] at hbx
      exact ⟨⟨_, rfl⟩, by simpa using hbx, honly⟩
theorem len4 {α : Type} {l : List α} (h : l.length = 4) : ∃ a b c d, l = [a, b, c, d] := by
  match l, h with
  | [a, b, c, d], _ => exact ⟨a, b, c, d, rfl⟩
theorem len2 {α : Type} {l : List α} (h : l.length = 2) : ∃ a b, l = [a, b] := by
  match l, h with
  | [a, b], _ => exact ⟨a, b, rfl⟩
theorem bv_append (a b : List UInt8) : bv (a ++ b) = bv a ++ bv b := by simp [bv]
theorem enc_lay (g k : Nat) (kind : UInt8) (p : List UInt8) (hl : p.length ≤ 112) :
    lay (splice (((lay (lay (bv (List.replicate 128 0)) 0 (bv (be 4 g))) 8 (bv (be 2 k))).set 10 (.int .u8 (kind.toNat : Int))).set 11 (.int .u8 (p.length : Int))) 12 (bv p)) 124 (bv (be 4 g)) =
      bv (be 4 g ++ List.replicate 4 0 ++ sBody k kind p ++ be 4 g) := by
  obtain ⟨g0, g1, g2, g3, e4⟩ := len4 (be_length 4 g)
  obtain ⟨k0, k1, e2⟩ := len2 (be_length 2 k)
  have hz : List.replicate 128 (0 : UInt8) = [0, 0, 0, 0, 0, 0, 0, 0, 0, 0, 0, 0] ++ List.replicate 116 0 := rfl
  have hln : ((UInt8.ofNat p.length).toNat : Int) = p.length := by
    have : (UInt8.ofNat p.length).toNat = p.length := by simp; omega
    rw [this]
  have h1 : ((lay (lay (bv (List.replicate 128 0)) 0 (bv (be 4 g))) 8 (bv (be 2 k))).set 10 (.int .u8 (kind.toNat : Int))).set 11 (.int .u8 (p.length : Int)) =
      bv ([g0, g1, g2, g3] ++ [0, 0, 0, 0] ++ [k0, k1, kind, UInt8.ofNat p.length]) ++ bv (List.replicate 116 0) := by
    rw [e4, e2, hz, ← hln]
    simp [lay, bv]
  rw [h1]
  unfold splice sBody
  rw [e4, e2]
  have h2 : (bv ([g0, g1, g2, g3] ++ [0, 0, 0, 0] ++ [k0, k1, kind, UInt8.ofNat p.length])).length = 12 := rfl
  rw [List.take_left' h2, List.drop_append, h2, List.drop_eq_nil_of_le (by rw [h2, bv_length]; omega), List.nil_append, bv_length, show 12 + p.length - 12 = p.length by omega]
  have h3 : (bv (List.replicate 116 0)).drop p.length = bv (List.replicate (112 - p.length) 0) ++ bv [0, 0, 0, 0] := by
    rw [← bv_append, show [0, 0, 0, 0] = List.replicate 4 (0 : UInt8) from rfl, List.replicate_append_replicate]
    unfold bv
    rw [List.map_replicate, List.drop_replicate, List.map_replicate]
    congr 1; omega
  rw [h3]
  unfold lay
  have h4 : (bv ([g0, g1, g2, g3] ++ [0, 0, 0, 0] ++ [k0, k1, kind, UInt8.ofNat p.length]) ++ (bv p ++ bv (List.replicate (112 - p.length) 0))).length = 124 := by
    simp [bv_length]; omega
  rw [← List.append_assoc, ← List.append_assoc, List.append_assoc (bv _) (bv p), List.take_left' h4, List.drop_eq_nil_of_le (by rw [List.length_append, h4]; simp [bv_length]), List.append_nil]
  unfold bv; simp [List.append_assoc]
theorem sBody_length (k : Nat) (kind : UInt8) (p : List UInt8) (hl : p.length ≤ 112) : (sBody k kind p).length = 116 := by
  unfold sBody; simp [be_length]; omega
theorem sBody_cut (g k : Nat) (kind : UInt8) (p : List UInt8) (hl : p.length ≤ 112) : ((be 4 g ++ List.replicate 4 0 ++ sBody k kind p ++ be 4 g).drop 8).take 116 = sBody k kind p := by
  have h1 : (be 4 g ++ List.replicate 4 0).length = 8 := by simp [be_length]
  rw [List.append_assoc, List.drop_left' h1, List.take_left' (sBody_length k kind p hl)]
theorem sect_length (g k : Nat) (kind : UInt8) (p : List UInt8) (hl : p.length ≤ 112) : (sect g k kind p).length = 128 := by
  unfold sect; simp [be_length, sBody_length k kind p hl]
theorem lay_sect (g k : Nat) (kind : UInt8) (p : List UInt8) : lay (bv (be 4 g ++ List.replicate 4 0 ++ sBody k kind p ++ be 4 g)) 4 (bv (be 4 (crc (sBody k kind p)))) = bv (sect g k kind p) := by
  unfold lay sect
  rw [bv_length, be_length]
  have h1 : (bv (be 4 g)).length = 4 := by rw [bv_length, be_length]
  have h2 : (bv (be 4 g) ++ bv (List.replicate 4 0)).length = 4 + 4 := by rw [List.length_append, h1, bv_length]; rfl
  have e : bv (be 4 g ++ List.replicate 4 0 ++ sBody k kind p ++ be 4 g) = (bv (be 4 g) ++ bv (List.replicate 4 0)) ++ (bv (sBody k kind p) ++ bv (be 4 g)) := by simp only [bv_append, List.append_assoc]
  rw [e, List.drop_left' h2, List.append_assoc (bv (be 4 g)), List.take_left' h1]
  simp only [bv_append, List.append_assoc]
/-- A cut of a block of bytes that is known whole. -/
theorem Box.cut {S : Nat → Prop} {w : World} {B : Nat} {xs : List UInt8} (h : Box w B (bv xs)) (o n c : Nat) (ho : o + n ≤ xs.length) (hn : n ≤ c) (hc : c ≤ maxLen) (hS : ¬ S B) :
    Bs S w (.slice (some ⟨B, o, none⟩) n c) ((xs.drop o).take n) := by
  have hl : ((xs.drop o).take n).length = n := by simp; omega
  have := Bs.mk (S := S) (w := w) (b := B) (o := o) (c := c) (l := (xs.drop o).take n) ⟨h.lt, hS⟩ (by omega) hc (fun j u hj => by
    obtain ⟨x, hx, rfl⟩ := bv_get hj
    rw [List.getElem?_take] at hx
    split at hx
    · rw [List.getElem?_drop] at hx
      exact (h.own (o + j) _ (by unfold bv; rw [List.getElem?_map, hx]; rfl)).1
    · cases hx)
  rwa [hl] at this

set_option maxRecDepth 100000 in
set_option maxHeartbeats 4000000 in
theorem encode_ok {S S2 : Nat → Prop} (w : World) (g k : Nat) (kind : UInt8) (v : Value) (p : List UInt8) (hg : g < 18446744073709551616) (hk : k < 9223372036854775808) (h : Bs S2 w v p) (hl : p.length ≤ 112) (hS : ∀ k, S k → k < w.heap.size) :
    Calls Try.prog 74 #[.int .u64 (g : Int), .int .i64 (k : Int), .int .u8 (kind.toNat : Int), v] w fun e w' => ∃ v', e = .returned v' ∧ Bs S w' v' (sect g k kind p) ∧ Ext w w' := by
  obtain ⟨a, c, rfl, hc, hm⟩ := h.open
  have H := Lib.hid h; clear h
  go_enter Try.func74, Try.ntmps74
  go_upto_region 2 with fail
  have B0 : Box (w.alloc (Obj.cells Try.zeroCells111 111)) w.heap.size (bv (List.replicate 128 0)) := Box.new w (bv (List.replicate 128 0)) 111
  have hE := (Ext.refl w).alloc (Obj.cells Try.zeroCells111 111)
  generalize w.alloc (Obj.cells Try.zeroCells111 111) = w1 at *
  have hB1 := B0.lt
  generalize hgb : w.heap.size = B at *
  go_wp2_with fail
  refine (put_ok w1 B 0 4 128 g _ B0 (by decide) hg (by simp [bv_length]) (by decide)).mono ?_
  rintro e w2 ⟨⟨v2, rfl⟩, B1, ho⟩
  have hE2 := ho.ext hE (by omega)
  clear B0 hE ho hB1
  go_wp2_with fail
  refine (put_ok w2 B 8 2 120 k _ B1 (by decide) (by omega) ?_ (by decide)).mono ?_
  · rw [lay_length _ _ _ (by simp [bv_length, be_length])]; simp [bv_length]
  rintro e w3 ⟨⟨v3, rfl⟩, B2, ho⟩
  have hE3 := ho.ext hE2 (by omega)
  clear B1 hE2 ho
  generalize hl2 : lay (lay (bv (List.replicate 128 0)) 0 (bv (be 4 g))) 8 (bv (be 2 k)) = l2 at *
  have hll2 : l2.length = 128 := by
    rw [← hl2, lay_length, lay_length]
    · simp [bv_length]
    · simp [bv_length, be_length]
    · rw [lay_length]
      · simp [bv_length, be_length]
      · simp [bv_length, be_length]
  obtain ⟨c10, f10⟩ := B2.own 10 _ (List.getElem?_eq_getElem (by omega))
  obtain ⟨c11, f11⟩ := B2.own 11 _ (List.getElem?_eq_getElem (by omega))
  have HL2 := Lib.hid hl2; clear hl2
  have hpm : (p.length : Int) % 256 = p.length := by omega
  have HH := Lib.hid hgb; clear hgb
  go_upto_region 5 with fail
  have B3 := (B2.set 10 (.int .u8 (kind.toNat : Int))).set 11 (.int .u8 (p.length : Int))
  have hE4 := (hE3.setCell (p := ⟨B, 10, none⟩) (by rw [HH.out]; exact Nat.le_refl _) (.int .u8 (kind.toNat : Int))).setCell (p := ⟨B, 11, none⟩) (by rw [HH.out]; exact Nat.le_refl _) (.int .u8 (p.length : Int))
  generalize (w3.setCell ⟨B, 10, none⟩ (.int .u8 (kind.toNat : Int))).setCell ⟨B, 11, none⟩ (.int .u8 (p.length : Int)) = w4 at *
  clear c10 c11 f10 f11 B2 hE3
  obtain ⟨t, hg4⟩ := B3
  go_wp2_with (refine wpList_copy_splice rfl (.tmp 23) (.tmp 24) 35 35 rfl 5 Try.underlying35 (by kernel_rfl) _ _ _ _ _ _ rfl rfl B 12 _ t hg4 (bv p) ?hn ?hpos ?hfit (bv_one p) B w ?hb (Nat.le_refl _) ?_)
  case hn => rw [bv_length]; exact (Nat.min_eq_left (by omega)).symm
  case hpos =>
    intro h0
    rw [bv_length] at h0
    obtain ⟨b0, o0, rfl, _, hcc⟩ := (H.out.keep hE4).cells h0
    first | exact ⟨rfl, _, rfl, fun j u hj => by rw [Addr.add_lit]; exact hcc j u hj⟩ | exact ⟨_, rfl, fun j u hj => by rw [Addr.add_lit]; exact hcc j u hj⟩
  case hfit => rw [bv_length]; simp; omega
  case hb => rw [← HH.out]; exact hE4
  intro w5 hg5 hb5
  have B5 : Box w5 B _ := ⟨t, hg5.out⟩
  have hE5 : Ext w w5 := by rw [← HH.out] at hb5; exact hb5
  clear hg4 hg5 hb5 hE4
  go_wp2_with fail
  refine (put_ok w5 B 124 4 4 g _ B5 (by decide) hg ?_ (by decide)).mono ?_
  · simp [splice, bv_length]; omega
  rintro e w6 ⟨⟨v6, rfl⟩, B6, ho⟩
  have hE6 := ho.ext hE5 (by rw [HH.out]; exact Nat.le_refl _)
  clear B5 hE5 ho
  rw [← HL2.out, enc_lay g k kind p hl] at B6
  have K1 : ∀ W, Ext w6 W → Bs (fun _ => False) W (.slice (some ⟨B, 8, none⟩) 116 120) (sBody k kind p) := fun W hW =>
    sBody_cut g k kind p hl ▸ (B6.keep hW).cut (S := fun _ => False) 8 116 120 (by simp [sBody_length k kind p hl, be_length]) (by decide) (by decide) (fun h => h)
  have K2 : ∀ W, Ext w6 W → Box W B (bv (be 4 g ++ List.replicate 4 0 ++ sBody k kind p ++ be 4 g)) := fun W hW => B6.keep hW
  have hcl := crc_lt (sBody k kind p)
  have hcl2 : crc (sBody k kind p) < 18446744073709551616 := by omega
  have hlen : 4 + 4 ≤ (bv (be 4 g ++ List.replicate 4 0 ++ sBody k kind p ++ be 4 g)).length := by simp [bv_length, be_length]; omega
  have K1 := Lib.hid K1; have K2 := Lib.hid K2
  have HCL2 := Lib.hid hcl2; have HLEN := Lib.hid hlen
  clear hcl2 hlen
  clear B6
  generalize hbd : sBody k kind p = bd at *
  have HBD := Lib.hid hbd; clear hbd
  generalize hcd : crc bd = cd at *
  have HWR := Lib.hid (wraps_u64 (cd : Int) (by omega) (by have := crc_lt bd; rw [hcd] at this; omega))
  have HCD := Lib.hid hcd; clear hcd
  go_upto_region 7 with fail
  go_region_with (first
    | (go_at_call 87; refine (sum_ok (S := fun _ => False) _ _ bd (K1.out _ (by repeat (first | exact Ext.refl _ | refine Ext.drew ?_)))).mono ?_; rw [HCD.out]; rintro e w' ⟨rfl, rfl⟩)
    | (go_at_call 86; rw [HWR.out]; refine (put_ok _ B 4 4 124 cd _ (K2.out _ (by repeat (first | exact Ext.refl _ | refine Ext.drew ?_))) (by decide) HCL2.out HLEN.out (by decide)).mono ?_; rintro e w7 ⟨⟨v7, rfl⟩, B7, ho⟩))
  have hE7 := ho.ext (hE6.trans (Ext.drew' w6)) (by rw [HH.out]; exact Nat.le_refl _)
  rw [← HCD.out, ← HBD.out, lay_sect g k kind p] at B7
  have hBS := B7.cut (S := S) 0 128 128 (by rw [sect_length g k kind p hl]; decide) (by decide) (by decide) (fun h => absurd (hS _ h) (Nat.lt_irrefl _))
  rw [List.drop_zero, List.take_of_length_le (by rw [sect_length g k kind p hl]; decide)] at hBS
  have HBS := Lib.hid hBS; clear hBS B7
  go_wp2_with fail
  go_ret
  exact ⟨_, rfl, HBS.out, hE7⟩
end Go.Proofs.Ytpciankfpagnhaa
