/- What slices.Backward at writes hands on. -/
import Derived.RangeFuncNested
import Derived.RangeFuncBound
import Derived.RangeFuncCalls
import Derived.RangeFuncLeaves
import Derived.Shelf.Abstract
import Derived.Shelf.RegionOpen
import Derived.OwnWalkIn
import Derived.TacticsInMore
import Derived.LoopNIn
import Derived.LoopIn
import Derived.Test.YtpciankfpagnhaaD2
namespace Go.Proofs.Ytpciankfpagnhaa
open Go.RowKit Go.Shelf

attribute [local go_sem] Oper.semAt_some

/-- A write as it lies: its place, its number, its slice. -/
structure Elt where
  ix : Int
  at_ : Int
  a : Option Addr
  n : Nat
  c : Nat
def Elt.enc (x : Elt) : Array Value := #[.int .i64 x.ix, .agg #[.int .i64 x.at_, .slice x.a x.n x.c]]
/-- The first k of f 0, f 1, .. -/
def upTo {α : Type} (f : Nat → α) (k : Nat) : List α := (List.range k).map f
theorem upTo_succ {α : Type} (f : Nat → α) (k : Nat) : upTo f (k + 1) = upTo f k ++ [f k] := by simp [upTo, List.range_succ]
theorem upTo_length {α : Type} (f : Nat → α) (k : Nat) : (upTo f k).length = k := by simp [upTo]

set_option maxRecDepth 100000 in
set_option maxHeartbeats 2000000 in
theorem back1_in (l Bs n₀ b off len cap : Nat) (at_ : Nat → Int) (sa : Nat → Option Addr) (sn sc : Nat → Nat) (hlen : len ≤ 1000000) (hb : b < n₀) (hBs : Bs < n₀)
    (J Jx : List Elt → World → Prop)
    (hY : ∀ pre x W1, J pre W1 → pre.length < len → YieldAt Fence.wide 0 Try.prog l (Elt.enc x) W1 fun e W' => (e = .returned (.bool true) ∧ J (pre ++ [x]) W' ∧ Below n₀ W1 W') ∨ (e = .returned (.bool false) ∧ Jx (pre ++ [x]) W'))
    (W : World) (hc : W.cell? ⟨Bs, 0, none⟩ = some (.slice (some ⟨b, off, none⟩) len cap))
    (he : ∀ k, k < len → W.cell? ⟨b, off + k * 2, none⟩ = some (.int .i64 (at_ k)) ∧ W.cell? ⟨b, off + k * 2 + 1, none⟩ = some (.slice (sa k) (sn k) (sc k))) (h0 : J [] W) :
    CallsIn Fence.wide 1 Try.prog 80 #[.func (.yield l) #[] #[], .pointer (some ⟨Bs, 0, none⟩)] W fun e W' => (∃ v, e = .returned v) ∧
      ((∃ xs, xs = upTo (fun j => (⟨((len - 1 - j : Nat) : Int), at_ (len - 1 - j), sa (len - 1 - j), sn (len - 1 - j), sc (len - 1 - j)⟩ : Elt)) len ∧ J xs W') ∨
       (∃ pre, (∃ k, k ≤ len ∧ pre = upTo (fun j => (⟨((len - 1 - j : Nat) : Int), at_ (len - 1 - j), sa (len - 1 - j), sn (len - 1 - j), sc (len - 1 - j)⟩ : Elt)) k) ∧ Jx pre W')) := by
  have HY := Lib.hid hY; clear hY
  have HE := Lib.hid he; clear he
  refine callsIn_of_wp Try.func80 rfl trivial ?_ rfl
  simp only [Try.ntmps80, List.size_toArray, List.length_cons, List.length_nil, Nat.reduceAdd, Nat.reduceSub, Array.replicate_succ, Array.replicate_zero, List.push_toArray, List.append_toArray, List.nil_append, List.cons_append]
  gi_wp2
  gi_loopw [3] (fun i wr => ∃ k : Nat, k ≤ len ∧ i = .int .i64 ((len : Int) - 1 - k) ∧ J (upTo (fun j => (⟨((len - 1 - j : Nat) : Int), at_ (len - 1 - j), sa (len - 1 - j), sn (len - 1 - j), sc (len - 1 - j)⟩ : Elt)) k) wr ∧ Below n₀ W wr)
    (fun i _ => (intOf i + 1).toNat)
  case atStart => exact ⟨0, Nat.zero_le _, by simp, h0, Below.refl _ _⟩
  case round =>
    obtain ⟨k, hk, rfl, hJs, hnx⟩ := hrel
    by_cases hlt : k < len
    · obtain ⟨e0, e1⟩ := HE.out (len - 1 - k) (by omega)
      have e0' := (hnx.cell (p := ⟨b, off + (len - 1 - k) * 2, none⟩) hb).trans e0
      have e1' := (hnx.cell (p := ⟨b, off + (len - 1 - k) * 2 + 1, none⟩) hb).trans e1
      have hc' := (hnx.cell (p := ⟨Bs, 0, none⟩) hBs).trans hc
      obtain ⟨fn, tmps, assign, body, hy, hR⟩ := HY.out _ (⟨((len - 1 - k : Nat) : Int), at_ (len - 1 - k), sa (len - 1 - k), sn (len - 1 - k), sc (len - 1 - k)⟩ : Elt) wr hJs (by rw [upTo_length]; exact hlt)
      simp only [Elt.enc] at hy
      obtain ⟨q, hq⟩ : ∃ q, len - 1 - k = q := ⟨_, rfl⟩
      have hqi : (len : Int) - 1 - k = q := by omega
      rw [hq] at hy hR e0' e1'
      rw [hqi]
      have hql : q < len := by omega
      have hqi2 : (q : Int) < len := by omega
      have hqi0 : (0 : Int) ≤ q := by omega
      clear e0 e1
      have HQI := Lib.hid hqi; clear hqi
      have HQ := Lib.hid hq; clear hq
      gi_wp2
      refine hR.mono ?_
      rintro e W3 (⟨rfl, hJ3, hk3⟩ | ⟨rfl, hJx3⟩)
      · gi_wp2
        go_roundw
        case rel => exact ⟨k + 1, by omega, by have := HQI.out; congr 1; omega, by rw [upTo_succ, HQ.out]; exact hJ3, hnx.trans hk3⟩
        case measure => first | (simp [intOf]; done) | (simp [intOf]; omega)
      · gi_wp2
        refine bodyPost_ret (results_none rfl _ _ _) rfl ?_
        exact ⟨⟨_, rfl⟩, .inr ⟨_, ⟨k + 1, by omega, by rw [upTo_succ, HQ.out]⟩, hJx3⟩⟩
    · obtain rfl : k = len := by omega
      have hlm : (k : Int) - 1 - k = -1 := by omega
      rw [hlm]
      gi_wp2
      go_end0
      exact ⟨⟨_, rfl⟩, .inl ⟨_, rfl, hJs⟩⟩

set_option maxRecDepth 100000 in
set_option maxHeartbeats 1000000 in
theorem back0_in (l Bs : Nat) (a : Option Addr) (cap : Nat) (J : List Elt → World → Prop) (W : World) (hc : W.cell? ⟨Bs, 0, none⟩ = some (.slice a 0 cap)) (h0 : J [] W) :
    CallsIn Fence.wide 1 Try.prog 80 #[.func (.yield l) #[] #[], .pointer (some ⟨Bs, 0, none⟩)] W fun e W' => (∃ v, e = .returned v) ∧ J [] W' := by
  refine callsIn_of_wp Try.func80 rfl trivial ?_ rfl
  simp only [Try.ntmps80, List.size_toArray, List.length_cons, List.length_nil, Nat.reduceAdd, Nat.reduceSub, Array.replicate_succ, Array.replicate_zero, List.push_toArray, List.append_toArray, List.nil_append, List.cons_append]
  gi_wp2
  gi_loopw [3] (fun i wr => i = .int .i64 (-1) ∧ J [] wr) (fun _ _ => 0)
  case atStart => exact ⟨rfl, h0⟩
  case round =>
    obtain ⟨rfl, hJs⟩ := hrel
    gi_wp2
    go_end0
    exact ⟨⟨_, rfl⟩, hJs⟩

/-- How a slice lies, off its value. -/
def slOf : Value → Option Addr × Nat × Nat | .slice a n c => (a, n, c) | _ => (none, 0, 0)
/-- The j-th write from behind, as it lies. -/
def eltAt (xs : List Wr) (cells : List Value) (j : Nat) : Elt :=
  let k := xs.length - 1 - j
  let s := slOf (cells.getD (k * 2 + 1) undef)
  ⟨((k : Nat) : Int), (xs.getD k ⟨0, []⟩).at_, s.1, s.2.1, s.2.2⟩

/-- What slices.Backward's value hands on: all writes, the last first; or some of them. -/
theorem back_stops {S : Nat → Prop} (Bs : Nat) (sv : Value) (xs : List Wr) (w0 w : World) (hx : Ext w0 w) (hl : xs.length ≤ 1000000) (hBs : Bs < w.heap.size) (hc : w.cell? ⟨Bs, 0, none⟩ = some sv) (h : Wrs S w0 sv xs) :
    ∃ cells : List Value, (∀ k (hk : k < xs.length), Go.Proofs.Ytpciankfpagnhaa.Bs S w0 (.slice (slOf (cells.getD (k * 2 + 1) undef)).1 (slOf (cells.getD (k * 2 + 1) undef)).2.1 (slOf (cells.getD (k * 2 + 1) undef)).2.2) xs[k].data) ∧
      SeqStopsK Fence.wide 1 Try.prog 80 #[.pointer (some ⟨Bs, 0, none⟩)] Elt.enc (Below w.heap.size) (fun ys => ys = upTo (eltAt xs cells) xs.length) (fun pre => ∃ k, k ≤ xs.length ∧ pre = upTo (eltAt xs cells) k) xs.length w := by
  obtain ⟨a, c, cells, rfl, l1, l2, l3, l4, l5⟩ := h
  have hsl : ∀ k (hk : k < xs.length), ∃ a' n' c', cells[k * 2 + 1]? = some (.slice a' n' c') ∧ cells[k * 2]? = some (.int .i64 xs[k].at_) ∧ Go.Proofs.Ytpciankfpagnhaa.Bs S w0 (.slice a' n' c') xs[k].data := by
    intro k hk
    obtain ⟨vd, hd, hv⟩ := l4 k _ (List.getElem?_eq_getElem hk)
    obtain ⟨q0, q1⟩ := take2 hd
    obtain ⟨a', c', rfl, _, _⟩ := hv.open
    exact ⟨a', _, c', q1, q0, hv⟩
  refine ⟨cells, fun k hk => ?_, ?_⟩
  · obtain ⟨a', n', c', e1, _, hv⟩ := hsl k hk
    rw [List.getD_eq_getElem?_getD, e1]; exact hv
  · intro l J Jx W hW _ _ hY h0
    have hc' := (hW.cell (p := ⟨Bs, 0, none⟩) hBs).trans hc
    rcases l5 with rfl | ⟨b, o, rfl, hb, l5⟩
    · exact (back0_in l Bs a c J W hc' h0).mono fun e W' ⟨he, hj⟩ => ⟨he, .inl ⟨_, rfl, hj⟩⟩
    · have he : ∀ k, k < xs.length → W.cell? ⟨b, o + k * 2, none⟩ = some (.int .i64 (xs.getD k ⟨0, []⟩).at_) ∧ W.cell? ⟨b, o + k * 2 + 1, none⟩ = some (.slice (slOf (cells.getD (k * 2 + 1) undef)).1 (slOf (cells.getD (k * 2 + 1) undef)).2.1 (slOf (cells.getD (k * 2 + 1) undef)).2.2) := by
        intro k hk
        obtain ⟨a', n', c', e1, e0, _⟩ := hsl k hk
        refine ⟨?_, ?_⟩
        · rw [(hW.cell (p := ⟨b, o + k * 2, none⟩) (Nat.lt_of_lt_of_le hb.1 hx.size)), hx.cell (l5 _ _ e0), List.getD_eq_getElem?_getD, List.getElem?_eq_getElem hk]; rfl
        · rw [(hW.cell (p := ⟨b, o + k * 2 + 1, none⟩) (Nat.lt_of_lt_of_le hb.1 hx.size)), Nat.add_assoc, hx.cell (l5 _ _ e1), List.getD_eq_getElem?_getD, e1]; rfl
      exact back1_in l Bs w.heap.size b o xs.length c (fun k => (xs.getD k ⟨0, []⟩).at_) (fun k => (slOf (cells.getD (k * 2 + 1) undef)).1) (fun k => (slOf (cells.getD (k * 2 + 1) undef)).2.1) (fun k => (slOf (cells.getD (k * 2 + 1) undef)).2.2) hl (Nat.lt_of_lt_of_le hb.1 hx.size) hBs J Jx hY W hc' he h0

set_option maxHeartbeats 400000 in
theorem backward_ok (w : World) (a : Option Addr) (n c : Nat) :
    CallsIn Fence.wide 1 Try.prog 61 #[.slice a n c] w fun e w' => e = .returned (.func (.func 80) #[] #[.pointer (some ⟨w.heap.size, 0, none⟩)]) ∧ w' = w.alloc (.cells #[.slice a n c] 23) := by
  refine callsIn_of_wp Try.func61 rfl trivial ?_ rfl
  simp only [Try.ntmps61, List.size_toArray, List.length_cons, List.length_nil, Nat.reduceAdd, Nat.reduceSub, Array.replicate_succ, Array.replicate_zero, List.push_toArray, List.append_toArray, List.nil_append, List.cons_append]
  gi_wp2
  go_ret
  exact ⟨rfl, rfl⟩
end Go.Proofs.Ytpciankfpagnhaa
