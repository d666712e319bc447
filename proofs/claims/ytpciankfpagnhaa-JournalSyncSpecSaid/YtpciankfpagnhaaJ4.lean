/- An append of zeros; numeral; the reference's sector. -/
import Derived.Test.YtpciankfpagnhaaJ2
import Derived.Test.YtpciankfpagnhaaM1
namespace Go.Proofs.Ytpciankfpagnhaa
open Go.RowKit

theorem chunk_bv (xs : List UInt8) (i : Nat) (x : UInt8) (h : xs[i]? = some x) : chunk 1 (bv xs) i = [.int .u8 (x.toNat : Int)] := by
  rw [chunk1]; unfold bv; rw [List.getElem?_map, h]; rfl
/-- A block of one's own that holds bytes first. -/
theorem OSl.ofRow {S : Nat → Prop} {w : World} {base g n c : Nat} {arr : Array Value} {xs : List UInt8} (hg : w.heap[g]? = some (.cells arr 5 (0, 0))) (hb : base ≤ g) (hS : ¬ S g) (hn : n = xs.length) (hc : xs.length ≤ c) (hm : c ≤ maxLen) (hs : arr.size = c)
    (ht : arr.toList.take xs.length = bv xs) : OSl base 5 1 eByte S w (.slice (some ⟨g, 0, none⟩) n c) xs := by
  subst hn
  refine ⟨bv xs, ⟨by rw [bv_length, Nat.mul_one], .inr ⟨g, c, arr, rfl, hb, hg, hc, hm, by rw [hs, Nat.mul_one], by rw [Nat.mul_one]; exact ht⟩⟩, ?_, fun i x hi => chunk_bv xs i x hi⟩
  intro g' hg' h
  simp [Value.ownBlock] at hg'
  subst hg'; exact hS h
theorem OSl.bvCells {S : Nat → Prop} {w : World} {base g n c : Nat} {xs : List UInt8} (h : OSl base 5 1 eByte S w (.slice (some ⟨g, 0, none⟩) n c) xs) :
    ∃ cur, w.heap[g]? = some (.cells cur 5 (0, 0)) ∧ base ≤ g ∧ ¬ S g ∧ n = xs.length ∧ xs.length ≤ c ∧ c ≤ maxLen ∧ cur.size = c ∧ cur.toList.take xs.length = bv xs := by
  obtain ⟨cells, hown, hnS, hel⟩ := h
  have hcl : cells.length = xs.length := by rw [hown.1]; omega
  have hcells : cells = bv xs := by
    apply List.ext_getElem?
    intro j
    unfold bv
    rw [List.getElem?_map]
    cases hx : xs[j]? with
    | none => rw [List.getElem?_eq_none_iff] at hx; rw [List.getElem?_eq_none (by omega)]; rfl
    | some x => exact take1 (hel j x hx)
  rcases hown.2 with ⟨e, _⟩ | ⟨g', cap, cur, e, hbg, hg, hnc, hcm, hcs, htake⟩
  · cases e
  · cases e
    exact ⟨cur, hg, hbg, hnS g rfl, rfl, hnc, hcm, by rw [hcs, Nat.mul_one], by rw [← hcells, ← htake, Nat.mul_one]⟩

section
variable {P : Program} {w : World} {S : Nat → Prop}
theorem run_append_zeros {t tn ty e : TypeId} {i : TypeInfo} {z : Value} (ht : P.underlying t = some (.slice e)) (hn : P.underlying tn = some (.int .i64)) (hi : P.info? e = some i) (hz : i.zero = some z) (hs : i.size = 1) (hb : i.bytes = 1)
    (hzc : z.cells = #[.int .u8 0]) (hze : e = 5) {base g len c n : Nat} {xs : List UInt8} (h : OSl base 5 1 eByte S w (.slice (some ⟨g, 0, none⟩) len c) xs) (hS : ∀ k, S k → k < w.heap.size) (hbase : base ≤ w.heap.size) (hsm : xs.length + n ≤ 140737488355328) :
    ∃ v' w', (Builtin.append_ #[t, tn] ty #[.slice (some ⟨g, 0, none⟩) len c, .int .i64 (n : Int)]).run P w = .ok v' w' ∧ OSl base 5 1 eByte S w' v' (xs ++ List.replicate n 0) ∧ w.grownBy w' (some g) ∧ v' ≠ .slice none 0 0 := by
  subst hze
  obtain ⟨cur, hg, hbg, hSg, rfl, hnc, hcm, hcs, htake⟩ := h.bvCells
  have hw : IntKind.i64.wrap (n : Int) = n := by rw [IntKind.wrap_i64]; omega
  have hw0 : ¬ ((n : Int) < 0) := by omega
  have hw48 : ¬ ((281474976710656 : Int) < n) := by omega
  have hzz : Builtin.zeroCells #[.int .u8 0] n = (bv (List.replicate n 0)).toArray := by
    apply Array.ext'
    simp only [Builtin.zeroCells, bv]
    apply List.ext_getElem
    · simp
    · intro j h1 h2; simp [Nat.mod_one]
  by_cases hroom : xs.length + n ≤ c
  · have hst := run_storeCells_at P g xs.length 5 (bv (List.replicate n 0)) 0 cur w hg (by simp [bv_length]; omega) (bv_one _)
    simp only [Nat.add_zero] at hst
    refine ⟨.slice (some ⟨g, 0, none⟩) (xs.length + n) c, w.setRow g (cur.toList.take xs.length ++ bv (List.replicate n 0) ++ cur.toList.drop (xs.length + (bv (List.replicate n 0)).length)).toArray, ?_, ?_, ⟨rfl, rfl, rfl, by simp, fun k _ hk => setRow_other w g k _ (fun e => hk (by rw [e]))⟩, by simp⟩
    · simp [Builtin.append_, run_underlying ht, run_underlying hn, sizeOf, typeInfo, zeroValue, hi, hz, hzc, hs, hb, asInt, asIntOf, hw, hw0, hw48, hroom, Addr.add_lit]
      by_cases h0 : n = 0
      · rw [if_pos h0]
        have e0 : ([] : List Value) = bv (List.replicate n 0) := by subst h0; rfl
        rw [e0, hst]
        simp
      · rw [if_neg h0, hzz]
        simp only
        rw [hst]
        simp
    · refine OSl.ofRow (setRow_heap w g _ _ 5 _ hg) hbg hSg (by simp) (by simpa using hroom) hcm ?_ ?_
      · simp [bv_length]; omega
      · rw [htake]
        have hl : (bv xs ++ bv (List.replicate n 0)).length = (xs ++ List.replicate n 0).length := by simp [bv_length]
        simp only
        rw [List.take_left' hl, bv_append]
  · have h63' : ¬ (9223372036854775807 < ((xs.length : Int) + (n : Int))) := by omega
    have hfit : Builtin.nextslicecap (xs.length + n) c * 1 ≤ 281474976710656 := growslice_fits (by omega) (by omega)
    have h48' : ¬ (281474976710656 < Builtin.nextslicecap (xs.length + n) c) := by omega
    have hcap : cur.toList.length = c := by rw [Array.length_toList, hcs]
    have hfo := run_firstCells_some (P := P) w.drew 1 xs.length ⟨g, 0, none⟩ xs.length c (bv xs) (by rw [bv_length, Nat.mul_one]) (fun j u hj => by
      have h1 : cur.toList[j]? = some u := by
        have hj' : j < (bv xs).length := by
          rcases Nat.lt_or_ge j (bv xs).length with h | h
          · exact h
          · rw [List.getElem?_eq_none h] at hj; cases hj
        rw [← htake, List.getElem?_take] at hj
        split at hj
        · exact hj
        · cases hj
      have h2 : w.drew.heap[g]? = some (.cells cur 5 (0, 0)) := hg
      simp only [World.cell?, Addr.add_lit, h2, Nat.zero_add]
      simpa using h1)
    have hcm2 : grownCap w (xs.length + n) c 5 ≤ maxLen := grownCap_le_maxLen w (xs.length + n) c 5 (by unfold maxLen; omega)
    refine ⟨.slice (some ⟨w.heap.size, 0, none⟩) (xs.length + n) (grownCap w (xs.length + n) c 5), w.drew.alloc (.cells ((bv xs).toArray ++ (bv (List.replicate n 0)).toArray ++ Builtin.zeroCells z.cells (grownCap w (xs.length + n) c 5 - (xs.length + n))) 5), ?_, ?_, ⟨rfl, rfl, rfl, by simp, fun k hk _ => Below.heap_alloc w.drew _ k hk⟩, by simp⟩
    · simp [Builtin.append_, run_underlying ht, run_underlying hn, sizeOf, typeInfo, zeroValue, hi, hz, hzc, hs, hb, asInt, asIntOf, hw, hw0, hw48, hroom, h63', h48', Question.forced, hfo, newRow, grownCap]
      by_cases h0 : n = 0
      · rw [if_pos h0]
        have e0 : ([] : List Value) = bv (List.replicate n 0) := by subst h0; rfl
        rw [← e0, List.append_nil]
      · rw [if_neg h0, hzz]
        congr 3
        apply Array.ext'
        simp
    · have hge := grownCap_ge w (xs.length + n) c 5
      refine OSl.ofRow (heap_alloc_new w.drew _) (by simpa using hbase) (fun h => absurd (hS _ h) (Nat.lt_irrefl _)) (by simp) (by simp; omega) hcm2 ?_ ?_
      · simp [bv_length, size_zeroCells, hzc]; omega
      · simp only [Array.toList_append, ← bv_append]
        rw [List.take_left' (by rw [bv_length])]
theorem wpList_append_zeros {t tn e : TypeId} {i : TypeInfo} {z : Value} {ops : Array Oper} {rest : List Oper} {o : Oper} {a : Act} {Q : Exit → Act → World → Prop} (hgd : o.guard = none) (s x : Operand)
    (ho : o.op = .call { callee := .builtin .append, args := #[s, x], argTypes := #[t, tn] }) (ht : P.underlying t = some (.slice e)) (hn : P.underlying tn = some (.int .i64)) (hi : P.info? e = some i) (hz : i.zero = some z) (hs : i.size = 1) (hb : i.bytes = 1)
    (hzc : z.cells = #[.int .u8 0]) (hze : e = 5) {base g len c n : Nat} {xs : List UInt8} (hv : a.eval s = .slice (some ⟨g, 0, none⟩) len c) (hx : a.eval x = .int .i64 (n : Int)) (h : OSl base 5 1 eByte S w (.slice (some ⟨g, 0, none⟩) len c) xs)
    (hS : ∀ k, S k → k < w.heap.size) (hbase : base ≤ w.heap.size) (hsm : xs.length + n ≤ 140737488355328)
    (hk : ∀ v' w', OSl base 5 1 eByte S w' v' (xs ++ List.replicate n 0) → w.grownBy w' (some g) → v' ≠ .slice none 0 0 → wpList P ops Q rest (a.put o.dst v') w') : wpList P ops Q (o :: rest) a w := by
  refine wpList_plain hgd fun K hK => ?_
  obtain ⟨v', w', hr, k1, k2, k3⟩ := run_append_zeros (P := P) (ty := o.type) ht hn hi hz hs hb hzc hze h hS hbase hsm
  unfold Oper.wp execOp
  simp only [ho, resolve, invoke, builtin, Sem.run_bind, Sem.run_pure, Result.andThen_ok, List.map_toArray, List.map_cons, List.map_nil, hv, hx, hr]
  exact hK _ _ (hk v' w' k1 k2 k3)
end

theorem row_set {w : World} {B : Nat} {cs : List Value} {t : TypeId} (h : w.heap[B]? = some (.cells cs.toArray t (0, 0))) (i : Nat) (u : Value) : (w.setCell ⟨B, i, none⟩ u).heap[B]? = some (.cells (cs.set i u).toArray t (0, 0)) := by
  simp [World.setCell, Array.getElem?_modify, h]

set_option maxRecDepth 100000 in
set_option maxHeartbeats 400000 in
theorem numeral_ok {S : Nat → Prop} (w : World) (base n m : Nat) (hmk : ∀ w, (Instr.makeSlice 35 (.int .i64 (m : Int)) (.int .i64 (m : Int))).run Try.prog w = .ok (.slice (some ⟨w.heap.size, 0, none⟩) m m) (w.alloc (.cells (zerosV m) 5)))
    (hm : m ≤ 8) (hn : n < 18446744073709551616) (hS : ∀ k, S k → k < w.heap.size) (hbase : base ≤ w.heap.size) :
    Calls Try.prog 88 #[.int .u64 (n : Int), .int .i64 (m : Int)] w fun e w' => ∃ v, e = .returned v ∧ OSl base 5 1 eByte S w' v (be m n) ∧ Ext w w' ∧ v = .slice (some ⟨w.heap.size, 0, none⟩) m m := by
  go_enter Try.func88, Try.ntmps88
  go_wp2_with fail
  have hE := (Ext.refl w).alloc (.cells (zerosV m) 5)
  have hrow : (w.alloc (.cells (zerosV m) 5)).heap[w.heap.size]? = some (.cells (bv (List.replicate m 0)).toArray 5 (0, 0)) := by
    rw [heap_alloc_new]; simp [zerosV, bv]
  generalize w.alloc (.cells (zerosV m) 5) = w1 at *
  generalize hgb : w.heap.size = B at *
  go_loopw [0, 6] (fun x i W => ∃ k : Nat, k ≤ m ∧ i = .int .i64 ((m : Int) - 1 - k) ∧ x = .int .u64 ((n / 256 ^ k : Nat) : Int) ∧ W.heap[B]? = some (.cells (lay (bv (List.replicate m 0)) (m - k) (bv ((be m n).drop (m - k)))).toArray 5 (0, 0)) ∧ Ext w W) (fun _ i _ => (intOf i + 1).toNat)
  case atStart => exact ⟨0, Nat.zero_le _, by simp, by simp, by rw [Nat.sub_zero, List.drop_eq_nil_of_le (by rw [be_length]; omega)]; simpa [bv, lay_nil] using hrow, hE⟩
  case round =>
    obtain ⟨k, hk, rfl, rfl, hbx, hEr⟩ := hrel
    by_cases hlt : k < m
    · have hdl : ((be m n).drop (m - k)).length = k := by rw [List.length_drop, be_length]; omega
      have hll : (lay (bv (List.replicate m 0)) (m - k) (bv ((be m n).drop (m - k)))).length = m := by rw [lay_length _ _ _ (by rw [bv_length, bv_length, hdl]; simp; omega)]; simp [bv_length]
      have hbxx : Box wr B _ := ⟨_, hbx⟩
      obtain ⟨c0, f0⟩ := hbxx.own (m - 1 - k) _ (List.getElem?_eq_getElem (by rw [hll]; omega))
      generalize (lay (bv (List.replicate m 0)) (m - k) (bv ((be m n).drop (m - k))))[m - 1 - k]'(by rw [hll]; omega) = v0 at c0
      have hst := row_set hbx (m - 1 - k) (.int .u8 (((n / 256 ^ k : Nat) : Int) % 256))
      have heq : (lay (bv (List.replicate m 0)) (m - k) (bv ((be m n).drop (m - k)))).set (m - 1 - k) (.int .u8 (((n / 256 ^ k : Nat) : Int) % 256)) = lay (bv (List.replicate m 0)) (m - (k + 1)) (bv ((be m n).drop (m - (k + 1)))) := by
        rw [show m - (k + 1) = m - 1 - k by omega, be_drop m n k hlt, show m - k = m - 1 - k + 1 by omega, lay_cons _ _ _ _ (by rw [bv_length, List.length_drop, be_length, bv_length]; simp; omega)]
        have : (UInt8.ofNat (n / 256 ^ k % 256)).toNat = n / 256 ^ k % 256 := by simp
        simp only [bv, List.map_cons, this]
        congr 2
      rw [heq] at hst
      have HST := Lib.hid hst; clear hst heq hll hdl
      have hq : n / 256 ^ (k + 1) = n / 256 ^ k / 256 := by rw [Nat.pow_succ, Nat.div_div_eq_div_mul]
      have HQ := Lib.hid hq; clear hq
      have hnk : n / 256 ^ k < 18446744073709551616 := Nat.lt_of_le_of_lt (Nat.div_le_self _ _) hn
      have hEs := hEr.setCell (p := ⟨B, m - 1 - k, none⟩) (by show _ ≤ B; omega) (.int .u8 (((n / 256 ^ k : Nat) : Int) % 256))
      have HES := Lib.hid hEs; clear hEs hEr hbx hbxx
      generalize n / 256 ^ k = q at *
      obtain ⟨p, hp⟩ : ∃ p, m - 1 - k = p := ⟨_, rfl⟩
      have hpi : (m : Int) - 1 - k = p := by omega
      rw [hp] at c0 f0 HST HES
      rw [hpi]
      have hpm : (p : Int) < m := by omega
      have hp0 : (0 : Int) ≤ p := by omega
      have HP := Lib.hid hp; clear hp
      have HPI := Lib.hid hpi; clear hpi
      go_wp2_with fail
      go_round
      case rel => exact ⟨k + 1, by omega, by have := HPI.out; congr 1; omega, by rw [HQ.out]; congr 1, HST.out, HES.out⟩
      case measure => first | (simp [intOf]; done) | (simp [intOf]; omega)
    · obtain rfl : k = m := by omega
      have hlm : (k : Int) - 1 - k = -1 := by omega
      rw [hlm]
      go_wp2_with fail
      go_ret
      rw [Nat.sub_self, List.drop_zero] at hbx
      have hl0 : (bv (be k n)).length = k := by rw [bv_length, be_length]
      have hly : lay (bv (List.replicate k 0)) 0 (bv (be k n)) = bv (be k n) := by
        unfold lay
        rw [hl0, List.drop_eq_nil_of_le (by rw [bv_length]; simp)]; simp
      rw [hly] at hbx
      exact ⟨_, rfl, OSl.ofRow hbx (by omega) (fun h => absurd (hS _ h) (Nat.lt_irrefl _)) (be_length k n).symm (by rw [be_length]; exact Nat.le_refl _) (by unfold maxLen; omega) (by simp [bv_length, be_length]) (by rw [be_length]; exact List.take_of_length_le (by rw [hl0]; exact Nat.le_refl _)), hEr, by rw [hgb]; rfl⟩
theorem make2 (w : World) : (Instr.makeSlice 35 (.int .i64 ((2 : Nat) : Int)) (.int .i64 ((2 : Nat) : Int))).run Try.prog w = .ok (.slice (some ⟨w.heap.size, 0, none⟩) 2 2) (w.alloc (.cells (zerosV 2) 5)) := by kernel_rfl
theorem make4 (w : World) : (Instr.makeSlice 35 (.int .i64 ((4 : Nat) : Int)) (.int .i64 ((4 : Nat) : Int))).run Try.prog w = .ok (.slice (some ⟨w.heap.size, 0, none⟩) 4 4) (w.alloc (.cells (zerosV 4) 5)) := by kernel_rfl
end Go.Proofs.Ytpciankfpagnhaa

/- The reference's sector. -/
namespace Go.Proofs.Ytpciankfpagnhaa
open Go.RowKit

/-- The kind of a sector. -/
def kindOf (b e : Bool) : UInt8 := (if b = true then 1 else 0) + (if e = true then 2 else 0)
theorem OSl.toS {S S' : Nat → Prop} {w : World} {base : Nat} {v : Value} {xs : List UInt8} (h : OSl base 5 1 eByte S w v xs) (hS : ∀ k, S' k → k < base) : OSl base 5 1 eByte S' w v xs := by
  obtain ⟨cells, hown, hnS, hel⟩ := h
  exact ⟨cells, hown, fun g hg h => by have := (hown.lt g hg).1; have := hS g h; omega, fun i x hi => hel i x hi⟩
/-- Blocks from n on. -/
abbrev From (n : Nat) : Nat → Prop := fun k => n ≤ k
theorem Bs.from {S : Nat → Prop} {w : World} {v : Value} {l : List UInt8} (h : Bs S w v l) : Bs (From w.heap.size) w v l := h.more etByte fun _ hk => .inr hk
theorem Bs.wo {w : World} {n : Nat} {v2 : Value} {l : List UInt8} (h : Bs (From n) w v2 l) {v : Value} (hv : ∀ g, v.ownBlock = some g → n ≤ g) : Bs (Wo (fun _ => False) v) w v2 l :=
  h.more etByte fun k hk => .inl (hk.elim (fun h => h.elim) (hv k))
/-- Two bytes, written out. -/
theorem two_lit {S : Nat → Prop} {w : World} {t : TypeId} (x y : UInt8) (hS : ¬ S w.heap.size) : Bs S (w.alloc (.cells #[.int .u8 (x.toNat : Int), .int .u8 (y.toNat : Int)] t)) (.slice (some ⟨w.heap.size, 0, none⟩) 2 2) [x, y] :=
  Bs.whole (t := t) (heap_alloc_new w _) hS rfl (Nat.le_refl _) (by decide)

/-- A kind and a length, written out. -/
theorem lit_wo {w w1 : World} (x : UInt8) {p : List UInt8} (hl : p.length ≤ 112) (hlt : w.heap.size < w1.heap.size) {t : TypeId} {c n : Nat} :
    Bs (Wo (fun _ => False) (.slice (some ⟨w.heap.size, 0, none⟩) n c)) (w1.alloc (.cells #[.int .u8 (x.toNat : Int), .int .u8 (p.length : Int)] t)) (.slice (some ⟨w1.heap.size, 0, none⟩) 2 2) [x, UInt8.ofNat p.length] := by
  have : ((UInt8.ofNat p.length).toNat : Int) = p.length := by
    have : (UInt8.ofNat p.length).toNat = p.length := by simp; omega
    rw [this]
  rw [← this]
  refine two_lit x _ ?_
  rintro (h | h)
  · exact h
  · simp [Value.ownBlock] at h; omega

theorem wo_lt {w : World} {g n c : Nat} (h : g < w.heap.size) : ∀ k, Wo (fun _ => False) (.slice (some ⟨g, 0, none⟩) n c) k → k < w.heap.size := by
  rintro k (h' | h')
  · exact h'.elim
  · simp [Value.ownBlock] at h'; omega
theorem Bs.below {w : World} {m : Nat} {v2 : Value} {l : List UInt8} (h : Bs (fun k => k < m) w v2 l) {g n c : Nat} (hg : g < m) : Bs (Wo (fun _ => False) (.slice (some ⟨g, 0, none⟩) n c)) w v2 l :=
  h.more etByte fun k hk => .inl (hk.elim (fun h => h.elim) (fun h => by simp [Value.ownBlock] at h; omega))
theorem OSl.some {S : Nat → Prop} {w : World} {base : Nat} {v : Value} {xs : List UInt8} (h : OSl base 5 1 eByte S w v xs) (hl : 0 < xs.length) : ∃ g c, v = .slice (Option.some ⟨g, 0, none⟩) xs.length c ∧ xs.length ≤ c ∧ c ≤ 9223372036854775807 := by
  obtain ⟨cells, hown, _⟩ := h
  rcases hown.2 with ⟨_, e⟩ | ⟨g', cap, cur, e, hbg, hg, hnc, hcm, hcs, htake⟩
  · omega
  · exact ⟨g', cap, e, hnc, hcm⟩
theorem zInfo : ∃ i, Try.prog.info? 5 = some i ∧ i.zero = some (.int .u8 0) ∧ i.size = 1 ∧ i.bytes = 1 := by
  have h : (Try.prog.info? 5).map (fun i => (i.zero, i.size, i.bytes)) = some (some (.int .u8 0), 1, 1) := by kernel_rfl
  cases hi : Try.prog.info? 5 with
  | none => rw [hi] at h; cases h
  | some i => rw [hi] at h; simp at h; exact ⟨i, rfl, h.1, h.2.1, h.2.2⟩
theorem U3 : Try.prog.underlying 3 = some (.int .i64) := by kernel_rfl

set_option maxRecDepth 100000 in
set_option maxHeartbeats 4000000 in
theorem sector_ok {S S2 : Nat → Prop} (w : World) (g k : Nat) (b e : Bool) (v : Value) (p : List UInt8) (hg : g < 18446744073709551616) (hk : k < 9223372036854775808) (h : Bs S2 w v p) (hl : p.length ≤ 112) (hS : ∀ k, S k → k < w.heap.size) :
    Calls Try.prog 76 #[.int .u64 (g : Int), .int .i64 (k : Int), .bool b, .bool e, v] w fun e' w' => ∃ v', e' = .returned v' ∧ Bs S w' v' (sect g k (kindOf b e) p) ∧ Ext w w' := by
  obtain ⟨a, c, rfl, hc, hm⟩ := h.open
  have H := Lib.hid (Bs.from h); clear h
  have HK := Lib.hid hk; clear hk
  obtain ⟨i5, HI⟩ := zInfo
  go_enter Try.func76, Try.ntmps76
  have hx : ∃ x : UInt8, kindOf b e = x := ⟨_, rfl⟩
  obtain ⟨x, hx⟩ := hx
  have hkv : (x = 0 ∧ b = false ∧ e = false) ∨ (x = 1 ∧ b = true ∧ e = false) ∨ (x = 2 ∧ b = false ∧ e = true) ∨ (x = 3 ∧ b = true ∧ e = true) := by
    subst hx; cases b <;> cases e <;> decide
  rw [hx]; clear hx
  have hpm : (p.length : Int) % 256 = p.length := by omega
  rcases hkv with ⟨rfl, rfl, rfl⟩ | ⟨rfl, rfl, rfl⟩ | ⟨rfl, rfl, rfl⟩ | ⟨rfl, rfl, rfl⟩
  · have hk' := HK.out
    go_upto_region 6 with fail
    go_wp2_with fail
    clear hk'
    refine (numeral_ok (S := fun _ => False) w w.heap.size k 2 make2 (by decide) (by have := HK.out; omega) (fun _ h => h.elim) (Nat.le_refl _)).mono ?_
    rintro _ w1 ⟨v1, rfl, ho1, hx1, rfl⟩
    have hb1 := (ho1.block _ rfl).2
    have hs1 := hx1.size
    go_wp2_with (at_builtin; go_loud (refine wpList_append_osl atB etByte rfl _ _ rfl w.heap.size _ _ (be 2 k) [0, UInt8.ofNat p.length] rfl rfl (ho1.keep etByte ((Ext.refl _).alloc _)) (lit_wo 0 hl hb1) (fun _ h => h.elim) (by simp [be_length]) (by simp [be_length]) (by simp; omega) ?_))
    rintro v2 w2 ho2 hg2
    have hx2 : Ext w w2 := (hx1.alloc _).grown hg2 (fun k hk => by simp [Value.ownBlock] at hk; omega)
    clear hg2 ho1 hx1 hb1 hs1
    have hv2 := fun g hg => (ho2.block g hg).1
    obtain ⟨a2, c2, rfl, hc2, hm2⟩ := (ho2.sl etByte).open
    go_wp2_with (at_builtin; go_loud (refine wpList_append_osl atB etByte rfl _ _ rfl w.heap.size _ _ (be 2 k ++ [0, UInt8.ofNat p.length]) p rfl rfl ho2 ((H.out.keep hx2).wo hv2) (fun _ h => h.elim) (by simp [be_length]; omega) (by simp [be_length]; omega) hx2.size ?_))
    rintro v3 w3 ho3 hg3
    have hx3 : Ext w w3 := hx2.grown hg3 hv2
    clear hg3 ho2 hx2 hv2
    obtain ⟨g3, c3, rfl, hc3, hm3⟩ := ho3.some (by simp [be_length]; try omega)
    go_wp2_with (at_builtin; go_loud (refine wpList_append_zeros (n := 112 - p.length) rfl _ _ rfl Try.underlying35 U3 HI.1 HI.2.1 HI.2.2.1 HI.2.2.2 rfl rfl rfl (congrArg (Value.int .i64) (by omega)) ho3 (fun _ h => h.elim) hx3.size (by simp [be_length]; omega) ?_))
    rintro v4 w4 ho4 hg4 _
    have hx4 : Ext w w4 := hx3.grown hg4 (fun k hk => by cases hk; exact (ho3.block _ rfl).1)
    clear hg4 ho3 hx3
    have ho4' : OSl w.heap.size 5 1 eByte (fun _ => False) w4 v4 (sBody k 0 p) := by
      have e4 : be 2 k ++ [0, UInt8.ofNat p.length] ++ p ++ List.replicate (112 - p.length) 0 = sBody k 0 p := rfl
      rw [← e4]; simpa using ho4
    clear ho4
    have ho4 := ho4'; clear ho4'
    have hlb : (sBody k 0 p).length = 116 := sBody_length k 0 p hl
    have HSB := Lib.hid (Bs.from (ho4.sl etByte)); clear ho4
    have hcl := crc_lt (sBody k 0 p)
    have hse : sect g k 0 p = be 4 g ++ be 4 (crc (sBody k 0 p)) ++ sBody k 0 p ++ be 4 g := rfl
    have HSE := Lib.hid hse; clear hse
    generalize sBody k 0 p = bd at *
    have hlb1 : bd.length ≤ 116 := by omega
    clear hlb
    obtain ⟨a4, c4, rfl, hc4, hm4⟩ := HSB.out.open
    go_wp2_with fail
    refine (numeral_ok (S := fun _ => False) w4 w4.heap.size g 4 make4 (by decide) hg (fun _ h => h.elim) (Nat.le_refl _)).mono ?_
    rintro _ w5 ⟨v5, rfl, ho5, hx5, rfl⟩
    have hb5 := (ho5.block _ rfl).2
    go_wp2_with fail
    refine (checksum_ok (S := From w4.heap.size) w5 _ bd (HSB.out.keep hx5)).mono ?_
    rintro _ w5' ⟨rfl, rfl⟩
    generalize crc bd = cd at *
    go_wp2_with fail
    refine (numeral_ok (S := Wo (fun _ => False) (.slice (some ⟨w4.heap.size, 0, none⟩) 4 4)) w5 w5.heap.size cd 4 make4 (by decide) (by omega) (wo_lt hb5) (Nat.le_refl _)).mono ?_
    rintro _ w6 ⟨v6, rfl, ho6, hx6, -⟩
    obtain ⟨a6, c6, rfl, hc6, hm6⟩ := (ho6.sl etByte).open
    have hx46 := hx5.trans hx6
    go_wp2_with (at_builtin; go_loud (refine wpList_append_osl atB etByte rfl _ _ rfl w4.heap.size _ _ (be 4 g) (be 4 cd) rfl rfl (ho5.keep etByte hx6) (ho6.sl etByte) (fun _ h => h.elim) (by simp [be_length]) (by simp [be_length]) hx46.size ?_))
    rintro v7 w7 ho7 hg7
    have hx7 : Ext w4 w7 := hx46.grown hg7 (fun k hk => by simp [Value.ownBlock] at hk; omega)
    clear hg7 ho5 ho6 hx5 hx6 hx46 hb5
    have hv7 := fun g hg => (ho7.block g hg).1
    obtain ⟨a7, c7, rfl, hc7, hm7⟩ := (ho7.sl etByte).open
    go_wp2_with (at_builtin; go_loud (refine wpList_append_osl atB etByte rfl _ _ rfl w4.heap.size _ _ (be 4 g ++ be 4 cd) bd rfl rfl ho7 ((HSB.out.keep hx7).wo hv7) (fun _ h => h.elim) (by simp [be_length]; omega) (by simp [be_length]; omega) hx7.size ?_))
    rintro v8 w8 ho8 hg8
    have hx8 : Ext w4 w8 := hx7.grown hg8 hv7
    clear hg8 ho7 hx7 hv7
    have hv8 := fun g hg => (ho8.block g hg).1
    obtain ⟨g8, c8, rfl, hc8, hm8⟩ := ho8.some (by simp [be_length]; try omega)
    have hb8 := (ho8.block g8 rfl).2
    generalize hn8 : (be 4 g ++ (be 4 cd ++ bd)).length = n8 at *
    have HN8 := Lib.hid hn8; clear hn8
    go_wp2_with fail
    refine (numeral_ok (S := fun k => k < w8.heap.size) w8 w8.heap.size g 4 make4 (by decide) hg (fun k hk => hk) (Nat.le_refl _)).mono ?_
    rintro _ w9 ⟨v9, rfl, ho9, hx9, -⟩
    obtain ⟨a9, c9, rfl, hc9, hm9⟩ := (ho9.sl etByte).open
    have hx49 := hx8.trans hx9
    go_wp2_with (at_builtin; go_loud (refine wpList_append_osl atB etByte rfl _ _ rfl w4.heap.size _ _ (be 4 g ++ (be 4 cd ++ bd)) (be 4 g) rfl rfl (ho8.keep etByte hx9) (Bs.below (ho9.sl etByte) hb8) (fun _ h => h.elim) (by simp [be_length]; omega) (by simp [be_length]; omega) hx49.size ?_))
    rintro v10 w10 ho10 hg10
    have hx10 : Ext w4 w10 := hx49.grown hg10 hv8
    clear hg10 ho8 ho9 hx8 hx9 hx49
    have ho11 : OSl w4.heap.size 5 1 eByte (fun _ => False) w10 v10 (sect g k 0 p) := by rw [HSE.out]; simpa using ho10
    clear ho10
    have HO := Lib.hid ((ho11.toS (fun k hk => Nat.lt_of_lt_of_le (hS k hk) hx4.size)).sl etByte)
    obtain ⟨a10, c10, rfl, hc10, hm10⟩ := HO.out.open
    clear ho11
    go_wp2_with fail
    go_ret
    exact ⟨_, rfl, HO.out, hx4.trans hx10⟩
  · have hk' := HK.out
    go_upto_region 6 with fail
    go_wp2_with fail
    clear hk'
    refine (numeral_ok (S := fun _ => False) w w.heap.size k 2 make2 (by decide) (by have := HK.out; omega) (fun _ h => h.elim) (Nat.le_refl _)).mono ?_
    rintro _ w1 ⟨v1, rfl, ho1, hx1, rfl⟩
    have hb1 := (ho1.block _ rfl).2
    have hs1 := hx1.size
    go_wp2_with (at_builtin; go_loud (refine wpList_append_osl atB etByte rfl _ _ rfl w.heap.size _ _ (be 2 k) [1, UInt8.ofNat p.length] rfl rfl (ho1.keep etByte ((Ext.refl _).alloc _)) (lit_wo 1 hl hb1) (fun _ h => h.elim) (by simp [be_length]) (by simp [be_length]) (by simp; omega) ?_))
    rintro v2 w2 ho2 hg2
    have hx2 : Ext w w2 := (hx1.alloc _).grown hg2 (fun k hk => by simp [Value.ownBlock] at hk; omega)
    clear hg2 ho1 hx1 hb1 hs1
    have hv2 := fun g hg => (ho2.block g hg).1
    obtain ⟨a2, c2, rfl, hc2, hm2⟩ := (ho2.sl etByte).open
    go_wp2_with (at_builtin; go_loud (refine wpList_append_osl atB etByte rfl _ _ rfl w.heap.size _ _ (be 2 k ++ [1, UInt8.ofNat p.length]) p rfl rfl ho2 ((H.out.keep hx2).wo hv2) (fun _ h => h.elim) (by simp [be_length]; omega) (by simp [be_length]; omega) hx2.size ?_))
    rintro v3 w3 ho3 hg3
    have hx3 : Ext w w3 := hx2.grown hg3 hv2
    clear hg3 ho2 hx2 hv2
    obtain ⟨g3, c3, rfl, hc3, hm3⟩ := ho3.some (by simp [be_length]; try omega)
    go_wp2_with (at_builtin; go_loud (refine wpList_append_zeros (n := 112 - p.length) rfl _ _ rfl Try.underlying35 U3 HI.1 HI.2.1 HI.2.2.1 HI.2.2.2 rfl rfl rfl (congrArg (Value.int .i64) (by omega)) ho3 (fun _ h => h.elim) hx3.size (by simp [be_length]; omega) ?_))
    rintro v4 w4 ho4 hg4 _
    have hx4 : Ext w w4 := hx3.grown hg4 (fun k hk => by cases hk; exact (ho3.block _ rfl).1)
    clear hg4 ho3 hx3
    have ho4' : OSl w.heap.size 5 1 eByte (fun _ => False) w4 v4 (sBody k 1 p) := by
      have e4 : be 2 k ++ [1, UInt8.ofNat p.length] ++ p ++ List.replicate (112 - p.length) 0 = sBody k 1 p := rfl
      rw [← e4]; simpa using ho4
    clear ho4
    have ho4 := ho4'; clear ho4'
    have hlb : (sBody k 1 p).length = 116 := sBody_length k 1 p hl
    have HSB := Lib.hid (Bs.from (ho4.sl etByte)); clear ho4
    have hcl := crc_lt (sBody k 1 p)
    have hse : sect g k 1 p = be 4 g ++ be 4 (crc (sBody k 1 p)) ++ sBody k 1 p ++ be 4 g := rfl
    have HSE := Lib.hid hse; clear hse
    generalize sBody k 1 p = bd at *
    have hlb1 : bd.length ≤ 116 := by omega
    clear hlb
    obtain ⟨a4, c4, rfl, hc4, hm4⟩ := HSB.out.open
    go_wp2_with fail
    refine (numeral_ok (S := fun _ => False) w4 w4.heap.size g 4 make4 (by decide) hg (fun _ h => h.elim) (Nat.le_refl _)).mono ?_
    rintro _ w5 ⟨v5, rfl, ho5, hx5, rfl⟩
    have hb5 := (ho5.block _ rfl).2
    go_wp2_with fail
    refine (checksum_ok (S := From w4.heap.size) w5 _ bd (HSB.out.keep hx5)).mono ?_
    rintro _ w5' ⟨rfl, rfl⟩
    generalize crc bd = cd at *
    go_wp2_with fail
    refine (numeral_ok (S := Wo (fun _ => False) (.slice (some ⟨w4.heap.size, 0, none⟩) 4 4)) w5 w5.heap.size cd 4 make4 (by decide) (by omega) (wo_lt hb5) (Nat.le_refl _)).mono ?_
    rintro _ w6 ⟨v6, rfl, ho6, hx6, -⟩
    obtain ⟨a6, c6, rfl, hc6, hm6⟩ := (ho6.sl etByte).open
    have hx46 := hx5.trans hx6
    go_wp2_with (at_builtin; go_loud (refine wpList_append_osl atB etByte rfl _ _ rfl w4.heap.size _ _ (be 4 g) (be 4 cd) rfl rfl (ho5.keep etByte hx6) (ho6.sl etByte) (fun _ h => h.elim) (by simp [be_length]) (by simp [be_length]) hx46.size ?_))
    rintro v7 w7 ho7 hg7
    have hx7 : Ext w4 w7 := hx46.grown hg7 (fun k hk => by simp [Value.ownBlock] at hk; omega)
    clear hg7 ho5 ho6 hx5 hx6 hx46 hb5
    have hv7 := fun g hg => (ho7.block g hg).1
    obtain ⟨a7, c7, rfl, hc7, hm7⟩ := (ho7.sl etByte).open
    go_wp2_with (at_builtin; go_loud (refine wpList_append_osl atB etByte rfl _ _ rfl w4.heap.size _ _ (be 4 g ++ be 4 cd) bd rfl rfl ho7 ((HSB.out.keep hx7).wo hv7) (fun _ h => h.elim) (by simp [be_length]; omega) (by simp [be_length]; omega) hx7.size ?_))
    rintro v8 w8 ho8 hg8
    have hx8 : Ext w4 w8 := hx7.grown hg8 hv7
    clear hg8 ho7 hx7 hv7
    have hv8 := fun g hg => (ho8.block g hg).1
    obtain ⟨g8, c8, rfl, hc8, hm8⟩ := ho8.some (by simp [be_length]; try omega)
    have hb8 := (ho8.block g8 rfl).2
    generalize hn8 : (be 4 g ++ (be 4 cd ++ bd)).length = n8 at *
    have HN8 := Lib.hid hn8; clear hn8
    go_wp2_with fail
    refine (numeral_ok (S := fun k => k < w8.heap.size) w8 w8.heap.size g 4 make4 (by decide) hg (fun k hk => hk) (Nat.le_refl _)).mono ?_
    rintro _ w9 ⟨v9, rfl, ho9, hx9, -⟩
    obtain ⟨a9, c9, rfl, hc9, hm9⟩ := (ho9.sl etByte).open
    have hx49 := hx8.trans hx9
    go_wp2_with (at_builtin; go_loud (refine wpList_append_osl atB etByte rfl _ _ rfl w4.heap.size _ _ (be 4 g ++ (be 4 cd ++ bd)) (be 4 g) rfl rfl (ho8.keep etByte hx9) (Bs.below (ho9.sl etByte) hb8) (fun _ h => h.elim) (by simp [be_length]; omega) (by simp [be_length]; omega) hx49.size ?_))
    rintro v10 w10 ho10 hg10
    have hx10 : Ext w4 w10 := hx49.grown hg10 hv8
    clear hg10 ho8 ho9 hx8 hx9 hx49
    have ho11 : OSl w4.heap.size 5 1 eByte (fun _ => False) w10 v10 (sect g k 1 p) := by rw [HSE.out]; simpa using ho10
    clear ho10
    have HO := Lib.hid ((ho11.toS (fun k hk => Nat.lt_of_lt_of_le (hS k hk) hx4.size)).sl etByte)
    obtain ⟨a10, c10, rfl, hc10, hm10⟩ := HO.out.open
    clear ho11
    go_wp2_with fail
    go_ret
    exact ⟨_, rfl, HO.out, hx4.trans hx10⟩
  · have hk' := HK.out
    go_upto_region 6 with fail
    go_wp2_with fail
    clear hk'
    refine (numeral_ok (S := fun _ => False) w w.heap.size k 2 make2 (by decide) (by have := HK.out; omega) (fun _ h => h.elim) (Nat.le_refl _)).mono ?_
    rintro _ w1 ⟨v1, rfl, ho1, hx1, rfl⟩
    have hb1 := (ho1.block _ rfl).2
    have hs1 := hx1.size
    go_wp2_with (at_builtin; go_loud (refine wpList_append_osl atB etByte rfl _ _ rfl w.heap.size _ _ (be 2 k) [2, UInt8.ofNat p.length] rfl rfl (ho1.keep etByte ((Ext.refl _).alloc _)) (lit_wo 2 hl hb1) (fun _ h => h.elim) (by simp [be_length]) (by simp [be_length]) (by simp; omega) ?_))
    rintro v2 w2 ho2 hg2
    have hx2 : Ext w w2 := (hx1.alloc _).grown hg2 (fun k hk => by simp [Value.ownBlock] at hk; omega)
    clear hg2 ho1 hx1 hb1 hs1
    have hv2 := fun g hg => (ho2.block g hg).1
    obtain ⟨a2, c2, rfl, hc2, hm2⟩ := (ho2.sl etByte).open
    go_wp2_with (at_builtin; go_loud (refine wpList_append_osl atB etByte rfl _ _ rfl w.heap.size _ _ (be 2 k ++ [2, UInt8.ofNat p.length]) p rfl rfl ho2 ((H.out.keep hx2).wo hv2) (fun _ h => h.elim) (by simp [be_length]; omega) (by simp [be_length]; omega) hx2.size ?_))
    rintro v3 w3 ho3 hg3
    have hx3 : Ext w w3 := hx2.grown hg3 hv2
    clear hg3 ho2 hx2 hv2
    obtain ⟨g3, c3, rfl, hc3, hm3⟩ := ho3.some (by simp [be_length]; try omega)
    go_wp2_with (at_builtin; go_loud (refine wpList_append_zeros (n := 112 - p.length) rfl _ _ rfl Try.underlying35 U3 HI.1 HI.2.1 HI.2.2.1 HI.2.2.2 rfl rfl rfl (congrArg (Value.int .i64) (by omega)) ho3 (fun _ h => h.elim) hx3.size (by simp [be_length]; omega) ?_))
    rintro v4 w4 ho4 hg4 _
    have hx4 : Ext w w4 := hx3.grown hg4 (fun k hk => by cases hk; exact (ho3.block _ rfl).1)
    clear hg4 ho3 hx3
    have ho4' : OSl w.heap.size 5 1 eByte (fun _ => False) w4 v4 (sBody k 2 p) := by
      have e4 : be 2 k ++ [2, UInt8.ofNat p.length] ++ p ++ List.replicate (112 - p.length) 0 = sBody k 2 p := rfl
      rw [← e4]; simpa using ho4
    clear ho4
    have ho4 := ho4'; clear ho4'
    have hlb : (sBody k 2 p).length = 116 := sBody_length k 2 p hl
    have HSB := Lib.hid (Bs.from (ho4.sl etByte)); clear ho4
    have hcl := crc_lt (sBody k 2 p)
    have hse : sect g k 2 p = be 4 g ++ be 4 (crc (sBody k 2 p)) ++ sBody k 2 p ++ be 4 g := rfl
    have HSE := Lib.hid hse; clear hse
    generalize sBody k 2 p = bd at *
    have hlb1 : bd.length ≤ 116 := by omega
    clear hlb
    obtain ⟨a4, c4, rfl, hc4, hm4⟩ := HSB.out.open
    go_wp2_with fail
    refine (numeral_ok (S := fun _ => False) w4 w4.heap.size g 4 make4 (by decide) hg (fun _ h => h.elim) (Nat.le_refl _)).mono ?_
    rintro _ w5 ⟨v5, rfl, ho5, hx5, rfl⟩
    have hb5 := (ho5.block _ rfl).2
    go_wp2_with fail
    refine (checksum_ok (S := From w4.heap.size) w5 _ bd (HSB.out.keep hx5)).mono ?_
    rintro _ w5' ⟨rfl, rfl⟩
    generalize crc bd = cd at *
    go_wp2_with fail
    refine (numeral_ok (S := Wo (fun _ => False) (.slice (some ⟨w4.heap.size, 0, none⟩) 4 4)) w5 w5.heap.size cd 4 make4 (by decide) (by omega) (wo_lt hb5) (Nat.le_refl _)).mono ?_
    rintro _ w6 ⟨v6, rfl, ho6, hx6, -⟩
    obtain ⟨a6, c6, rfl, hc6, hm6⟩ := (ho6.sl etByte).open
    have hx46 := hx5.trans hx6
    go_wp2_with (at_builtin; go_loud (refine wpList_append_osl atB etByte rfl _ _ rfl w4.heap.size _ _ (be 4 g) (be 4 cd) rfl rfl (ho5.keep etByte hx6) (ho6.sl etByte) (fun _ h => h.elim) (by simp [be_length]) (by simp [be_length]) hx46.size ?_))
    rintro v7 w7 ho7 hg7
    have hx7 : Ext w4 w7 := hx46.grown hg7 (fun k hk => by simp [Value.ownBlock] at hk; omega)
    clear hg7 ho5 ho6 hx5 hx6 hx46 hb5
    have hv7 := fun g hg => (ho7.block g hg).1
    obtain ⟨a7, c7, rfl, hc7, hm7⟩ := (ho7.sl etByte).open
    go_wp2_with (at_builtin; go_loud (refine wpList_append_osl atB etByte rfl _ _ rfl w4.heap.size _ _ (be 4 g ++ be 4 cd) bd rfl rfl ho7 ((HSB.out.keep hx7).wo hv7) (fun _ h => h.elim) (by simp [be_length]; omega) (by simp [be_length]; omega) hx7.size ?_))
    rintro v8 w8 ho8 hg8
    have hx8 : Ext w4 w8 := hx7.grown hg8 hv7
    clear hg8 ho7 hx7 hv7
    have hv8 := fun g hg => (ho8.block g hg).1
    obtain ⟨g8, c8, rfl, hc8, hm8⟩ := ho8.some (by simp [be_length]; try omega)
    have hb8 := (ho8.block g8 rfl).2
    generalize hn8 : (be 4 g ++ (be 4 cd ++ bd)).length = n8 at *
    have HN8 := Lib.hid hn8; clear hn8
    go_wp2_with fail
    refine (numeral_ok (S := fun k => k < w8.heap.size) w8 w8.heap.size g 4 make4 (by decide) hg (fun k hk => hk) (Nat.le_refl _)).mono ?_
    rintro _ w9 ⟨v9, rfl, ho9, hx9, -⟩
    obtain ⟨a9, c9, rfl, hc9, hm9⟩ := (ho9.sl etByte).open
    have hx49 := hx8.trans hx9
    go_wp2_with (at_builtin; go_loud (refine wpList_append_osl atB etByte rfl _ _ rfl w4.heap.size _ _ (be 4 g ++ (be 4 cd ++ bd)) (be 4 g) rfl rfl (ho8.keep etByte hx9) (Bs.below (ho9.sl etByte) hb8) (fun _ h => h.elim) (by simp [be_length]; omega) (by simp [be_length]; omega) hx49.size ?_))
    rintro v10 w10 ho10 hg10
    have hx10 : Ext w4 w10 := hx49.grown hg10 hv8
    clear hg10 ho8 ho9 hx8 hx9 hx49
    have ho11 : OSl w4.heap.size 5 1 eByte (fun _ => False) w10 v10 (sect g k 2 p) := by rw [HSE.out]; simpa using ho10
    clear ho10
    have HO := Lib.hid ((ho11.toS (fun k hk => Nat.lt_of_lt_of_le (hS k hk) hx4.size)).sl etByte)
    obtain ⟨a10, c10, rfl, hc10, hm10⟩ := HO.out.open
    clear ho11
    go_wp2_with fail
    go_ret
    exact ⟨_, rfl, HO.out, hx4.trans hx10⟩
  · have hk' := HK.out
    go_upto_region 6 with fail
    go_wp2_with fail
    clear hk'
    refine (numeral_ok (S := fun _ => False) w w.heap.size k 2 make2 (by decide) (by have := HK.out; omega) (fun _ h => h.elim) (Nat.le_refl _)).mono ?_
    rintro _ w1 ⟨v1, rfl, ho1, hx1, rfl⟩
    have hb1 := (ho1.block _ rfl).2
    have hs1 := hx1.size
    go_wp2_with (at_builtin; go_loud (refine wpList_append_osl atB etByte rfl _ _ rfl w.heap.size _ _ (be 2 k) [3, UInt8.ofNat p.length] rfl rfl (ho1.keep etByte ((Ext.refl _).alloc _)) (lit_wo 3 hl hb1) (fun _ h => h.elim) (by simp [be_length]) (by simp [be_length]) (by simp; omega) ?_))
    rintro v2 w2 ho2 hg2
    have hx2 : Ext w w2 := (hx1.alloc _).grown hg2 (fun k hk => by simp [Value.ownBlock] at hk; omega)
    clear hg2 ho1 hx1 hb1 hs1
    have hv2 := fun g hg => (ho2.block g hg).1
    obtain ⟨a2, c2, rfl, hc2, hm2⟩ := (ho2.sl etByte).open
    go_wp2_with (at_builtin; go_loud (refine wpList_append_osl atB etByte rfl _ _ rfl w.heap.size _ _ (be 2 k ++ [3, UInt8.ofNat p.length]) p rfl rfl ho2 ((H.out.keep hx2).wo hv2) (fun _ h => h.elim) (by simp [be_length]; omega) (by simp [be_length]; omega) hx2.size ?_))
    rintro v3 w3 ho3 hg3
    have hx3 : Ext w w3 := hx2.grown hg3 hv2
    clear hg3 ho2 hx2 hv2
    obtain ⟨g3, c3, rfl, hc3, hm3⟩ := ho3.some (by simp [be_length]; try omega)
    go_wp2_with (at_builtin; go_loud (refine wpList_append_zeros (n := 112 - p.length) rfl _ _ rfl Try.underlying35 U3 HI.1 HI.2.1 HI.2.2.1 HI.2.2.2 rfl rfl rfl (congrArg (Value.int .i64) (by omega)) ho3 (fun _ h => h.elim) hx3.size (by simp [be_length]; omega) ?_))
    rintro v4 w4 ho4 hg4 _
    have hx4 : Ext w w4 := hx3.grown hg4 (fun k hk => by cases hk; exact (ho3.block _ rfl).1)
    clear hg4 ho3 hx3
    have ho4' : OSl w.heap.size 5 1 eByte (fun _ => False) w4 v4 (sBody k 3 p) := by
      have e4 : be 2 k ++ [3, UInt8.ofNat p.length] ++ p ++ List.replicate (112 - p.length) 0 = sBody k 3 p := rfl
      rw [← e4]; simpa using ho4
    clear ho4
    have ho4 := ho4'; clear ho4'
    have hlb : (sBody k 3 p).length = 116 := sBody_length k 3 p hl
    have HSB := Lib.hid (Bs.from (ho4.sl etByte)); clear ho4
    have hcl := crc_lt (sBody k 3 p)
    have hse : sect g k 3 p = be 4 g ++ be 4 (crc (sBody k 3 p)) ++ sBody k 3 p ++ be 4 g := rfl
    have HSE := Lib.hid hse; clear hse
    generalize sBody k 3 p = bd at *
    have hlb1 : bd.length ≤ 116 := by omega
    clear hlb
    obtain ⟨a4, c4, rfl, hc4, hm4⟩ := HSB.out.open
    go_wp2_with fail
    refine (numeral_ok (S := fun _ => False) w4 w4.heap.size g 4 make4 (by decide) hg (fun _ h => h.elim) (Nat.le_refl _)).mono ?_
    rintro _ w5 ⟨v5, rfl, ho5, hx5, rfl⟩
    have hb5 := (ho5.block _ rfl).2
    go_wp2_with fail
    refine (checksum_ok (S := From w4.heap.size) w5 _ bd (HSB.out.keep hx5)).mono ?_
    rintro _ w5' ⟨rfl, rfl⟩
    generalize crc bd = cd at *
    go_wp2_with fail
    refine (numeral_ok (S := Wo (fun _ => False) (.slice (some ⟨w4.heap.size, 0, none⟩) 4 4)) w5 w5.heap.size cd 4 make4 (by decide) (by omega) (wo_lt hb5) (Nat.le_refl _)).mono ?_
    rintro _ w6 ⟨v6, rfl, ho6, hx6, -⟩
    obtain ⟨a6, c6, rfl, hc6, hm6⟩ := (ho6.sl etByte).open
    have hx46 := hx5.trans hx6
    go_wp2_with (at_builtin; go_loud (refine wpList_append_osl atB etByte rfl _ _ rfl w4.heap.size _ _ (be 4 g) (be 4 cd) rfl rfl (ho5.keep etByte hx6) (ho6.sl etByte) (fun _ h => h.elim) (by simp [be_length]) (by simp [be_length]) hx46.size ?_))
    rintro v7 w7 ho7 hg7
    have hx7 : Ext w4 w7 := hx46.grown hg7 (fun k hk => by simp [Value.ownBlock] at hk; omega)
    clear hg7 ho5 ho6 hx5 hx6 hx46 hb5
    have hv7 := fun g hg => (ho7.block g hg).1
    obtain ⟨a7, c7, rfl, hc7, hm7⟩ := (ho7.sl etByte).open
    go_wp2_with (at_builtin; go_loud (refine wpList_append_osl atB etByte rfl _ _ rfl w4.heap.size _ _ (be 4 g ++ be 4 cd) bd rfl rfl ho7 ((HSB.out.keep hx7).wo hv7) (fun _ h => h.elim) (by simp [be_length]; omega) (by simp [be_length]; omega) hx7.size ?_))
    rintro v8 w8 ho8 hg8
    have hx8 : Ext w4 w8 := hx7.grown hg8 hv7
    clear hg8 ho7 hx7 hv7
    have hv8 := fun g hg => (ho8.block g hg).1
    obtain ⟨g8, c8, rfl, hc8, hm8⟩ := ho8.some (by simp [be_length]; try omega)
    have hb8 := (ho8.block g8 rfl).2
    generalize hn8 : (be 4 g ++ (be 4 cd ++ bd)).length = n8 at *
    have HN8 := Lib.hid hn8; clear hn8
    go_wp2_with fail
    refine (numeral_ok (S := fun k => k < w8.heap.size) w8 w8.heap.size g 4 make4 (by decide) hg (fun k hk => hk) (Nat.le_refl _)).mono ?_
    rintro _ w9 ⟨v9, rfl, ho9, hx9, -⟩
    obtain ⟨a9, c9, rfl, hc9, hm9⟩ := (ho9.sl etByte).open
    have hx49 := hx8.trans hx9
    go_wp2_with (at_builtin; go_loud (refine wpList_append_osl atB etByte rfl _ _ rfl w4.heap.size _ _ (be 4 g ++ (be 4 cd ++ bd)) (be 4 g) rfl rfl (ho8.keep etByte hx9) (Bs.below (ho9.sl etByte) hb8) (fun _ h => h.elim) (by simp [be_length]; omega) (by simp [be_length]; omega) hx49.size ?_))
    rintro v10 w10 ho10 hg10
    have hx10 : Ext w4 w10 := hx49.grown hg10 hv8
    clear hg10 ho8 ho9 hx8 hx9 hx49
    have ho11 : OSl w4.heap.size 5 1 eByte (fun _ => False) w10 v10 (sect g k 3 p) := by rw [HSE.out]; simpa using ho10
    clear ho10
    have HO := Lib.hid ((ho11.toS (fun k hk => Nat.lt_of_lt_of_le (hS k hk) hx4.size)).sl etByte)
    obtain ⟨a10, c10, rfl, hc10, hm10⟩ := HO.out.open
    clear ho11
    go_wp2_with fail
    go_ret
    exact ⟨_, rfl, HO.out, hx4.trans hx10⟩
end Go.Proofs.Ytpciankfpagnhaa
