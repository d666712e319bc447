/- What slices.Backward at writes hands on. -/
import Derived.RangeFuncNested
import Derived.RangeFuncBound
import Derived.RangeFuncCalls
import Derived.RangeFuncLeaves
import Derived.Shelf.Abstract
import Derived.Shelf.RegionOpen
import Derived.OwnWalkIn
import Derived.TacticsInMore
import Derived.LoopNIn
import Derived.LoopIn
import Derived.Test.YtpciankfpagnhaaD1
import Derived.Test.YtpciankfpagnhaaD4
namespace Go.Proofs.Ytpciankfpagnhaa
open Go.RowKit Go.Shelf

attribute [local go_sem] Oper.semAt_some

/-- A write as it lies: its place, its number, its slice. -/
structure Elt where
  ix : Int
  at_ : Int
  a : Option Addr
  n : Nat
  c : Nat
def Elt.enc (x : Elt) : Array Value := #[.int .i64 x.ix, .agg #[.int .i64 x.at_, .slice x.a x.n x.c]]
/-- The first k of f 0, f 1, .. -/
def upTo {α : Type} (f : Nat → α) (k : Nat) : List α := (List.range k).map f
theorem upTo_succ {α : Type} (f : Nat → α) (k : Nat) : upTo f (k + 1) = upTo f k ++ [f k] := by simp [upTo, List.range_succ]
theorem upTo_length {α : Type} (f : Nat → α) (k : Nat) : (upTo f k).length = k := by simp [upTo]

set_option maxRecDepth 100000 in
set_option maxHeartbeats 2000000 in
theorem back1_in (l Bs n₀ b off len cap : Nat) (at_ : Nat → Int) (sa : Nat → Option Addr) (sn sc : Nat → Nat) (hlen : len ≤ 1000000) (hb : b < n₀) (hBs : Bs < n₀)
    (J Jx : List Elt → World → Prop)
    (hY : ∀ pre x W1, J pre W1 → pre.length < len → YieldAt Fence.wide 0 Try.prog l (Elt.enc x) W1 fun e W' => (e = .returned (.bool true) ∧ J (pre ++ [x]) W' ∧ Below n₀ W1 W') ∨ (e = .returned (.bool false) ∧ Jx (pre ++ [x]) W'))
    (W : World) (hc : W.cell? ⟨Bs, 0, none⟩ = some (.slice (some ⟨b, off, none⟩) len cap))
    (he : ∀ k, k < len → W.cell? ⟨b, off + k * 2, none⟩ = some (.int .i64 (at_ k)) ∧ W.cell? ⟨b, off + k * 2 + 1, none⟩ = some (.slice (sa k) (sn k) (sc k))) (h0 : J [] W) :
    CallsIn Fence.wide 1 Try.prog 80 #[.func (.yield l) #[] #[], .pointer (some ⟨Bs, 0, none⟩)] W fun e W' => (∃ v, e = .returned v) ∧
      ((∃ xs, xs = upTo (fun j => (⟨((len - 1 - j : Nat) : Int), at_ (len - 1 - j), sa (len - 1 - j), sn (len - 1 - j), sc (len - 1 - j)⟩ : Elt)) len ∧ J xs W') ∨
       (∃ pre, (∃ k, k ≤ len ∧ pre = upTo (fun j => (⟨((len - 1 - j : Nat) : Int), at_ (len - 1 - j), sa (len - 1 - j), sn (len - 1 - j), sc (len - 1 - j)⟩ : Elt)) k) ∧ Jx pre W')) := by
  have HY := Lib.hid hY; clear hY
  have HE := Lib.hid he; clear he
  refine callsIn_of_wp Try.func80 rfl trivial ?_ rfl
  simp only [Try.ntmps80, List.size_toArray, List.length_cons, List.length_nil, Nat.reduceAdd, Nat.reduceSub, Array.replicate_succ, Array.replicate_zero, List.push_toArray, List.append_toArray, List.nil_append, List.cons_append]
  gi_wp2
  gi_loopw [3] (fun i wr => ∃ k : Nat, k ≤ len ∧ i = .int .i64 ((len : Int) - 1 - k) ∧ J (upTo (fun j => (⟨((len - 1 - j : Nat) : Int), at_ (len - 1 - j), sa (len - 1 - j), sn (len - 1 - j), sc (len - 1 - j)⟩ : Elt)) k) wr ∧ Below n₀ W wr)
    (fun i _ => (intOf i + 1).toNat)
  case atStart => exact ⟨0, Nat.zero_le _, by simp, h0, Below.refl _ _⟩
  case round =>
    obtain ⟨k, hk, rfl, hJs, hnx⟩ := hrel
    by_cases hlt : k < len
    · obtain ⟨e0, e1⟩ := HE.out (len - 1 - k) (by omega)
      have e0' := (hnx.cell (p := ⟨b, off + (len - 1 - k) * 2, none⟩) hb).trans e0
      have e1' := (hnx.cell (p := ⟨b, off + (len - 1 - k) * 2 + 1, none⟩) hb).trans e1
      have hc' := (hnx.cell (p := ⟨Bs, 0, none⟩) hBs).trans hc
      obtain ⟨fn, tmps, assign, body, hy, hR⟩ := HY.out _ (⟨((len - 1 - k : Nat) : Int), at_ (len - 1 - k), sa (len - 1 - k), sn (len - 1 - k), sc (len - 1 - k)⟩ : Elt) wr hJs (by rw [upTo_length]; exact hlt)
      simp only [Elt.enc] at hy
      obtain ⟨q, hq⟩ : ∃ q, len - 1 - k = q := ⟨_, rfl⟩
      have hqi : (len : Int) - 1 - k = q := by omega
      rw [hq] at hy hR e0' e1'
      rw [hqi]
      have hql : q < len := by omega
      have hqi2 : (q : Int) < len := by omega
      have hqi0 : (0 : Int) ≤ q := by omega
      clear e0 e1
      have HQI := Lib.hid hqi; clear hqi
      have HQ := Lib.hid hq; clear hq
      gi_wp2
      refine hR.mono ?_
      rintro e W3 (⟨rfl, hJ3, hk3⟩ | ⟨rfl, hJx3⟩)
      · gi_wp2
        go_roundw
        case rel => exact ⟨k + 1, by omega, by have := HQI.out; congr 1; omega, by rw [upTo_succ, HQ.out]; exact hJ3, hnx.trans hk3⟩
        case measure => first | (simp [intOf]; done) | (simp [intOf]; omega)
      · gi_wp2
        refine bodyPost_ret (results_none rfl _ _ _) rfl ?_
        exact ⟨⟨_, rfl⟩, .inr ⟨_, ⟨k + 1, by omega, by rw [upTo_succ, HQ.out]⟩, hJx3⟩⟩
    · obtain rfl : k = len := by omega
      have hlm : (k : Int) - 1 - k = -1 := by omega
      rw [hlm]
      gi_wp2
      go_end0
      exact ⟨⟨_, rfl⟩, .inl ⟨_, rfl, hJs⟩⟩

set_option maxRecDepth 100000 in
set_option maxHeartbeats 1000000 in
theorem back0_in (l Bs : Nat) (a : Option Addr) (cap : Nat) (J : List Elt → World → Prop) (W : World) (hc : W.cell? ⟨Bs, 0, none⟩ = some (.slice a 0 cap)) (h0 : J [] W) :
    CallsIn Fence.wide 1 Try.prog 80 #[.func (.yield l) #[] #[], .pointer (some ⟨Bs, 0, none⟩)] W fun e W' => (∃ v, e = .returned v) ∧ J [] W' := by
  refine callsIn_of_wp Try.func80 rfl trivial ?_ rfl
  simp only [Try.ntmps80, List.size_toArray, List.length_cons, List.length_nil, Nat.reduceAdd, Nat.reduceSub, Array.replicate_succ, Array.replicate_zero, List.push_toArray, List.append_toArray, List.nil_append, List.cons_append]
  gi_wp2
  gi_loopw [3] (fun i wr => i = .int .i64 (-1) ∧ J [] wr) (fun _ _ => 0)
  case atStart => exact ⟨rfl, h0⟩
  case round =>
    obtain ⟨rfl, hJs⟩ := hrel
    gi_wp2
    go_end0
    exact ⟨⟨_, rfl⟩, hJs⟩

/-- How a slice lies, off its value. -/
def slOf : Value → Option Addr × Nat × Nat | .slice a n c => (a, n, c) | _ => (none, 0, 0)
/-- The j-th write from behind, as it lies. -/
def eltAt (xs : List Wr) (cells : List Value) (j : Nat) : Elt :=
  let k := xs.length - 1 - j
  let s := slOf (cells.getD (k * 2 + 1) undef)
  ⟨((k : Nat) : Int), (xs.getD k ⟨0, []⟩).at_, s.1, s.2.1, s.2.2⟩

/-- What slices.Backward's value hands on: all writes, the last first; or some of them. -/
theorem back_stops {S : Nat → Prop} (Bs : Nat) (sv : Value) (xs : List Wr) (w0 w : World) (hx : Ext w0 w) (hl : xs.length ≤ 1000000) (hBs : Bs < w.heap.size) (hc : w.cell? ⟨Bs, 0, none⟩ = some sv) (h : Wrs S w0 sv xs) :
    ∃ cells : List Value, (∀ k (hk : k < xs.length), Go.Proofs.Ytpciankfpagnhaa.Bs S w0 (.slice (slOf (cells.getD (k * 2 + 1) undef)).1 (slOf (cells.getD (k * 2 + 1) undef)).2.1 (slOf (cells.getD (k * 2 + 1) undef)).2.2) xs[k].data) ∧
      SeqStopsK Fence.wide 1 Try.prog 80 #[.pointer (some ⟨Bs, 0, none⟩)] Elt.enc (Below w.heap.size) (fun ys => ys = upTo (eltAt xs cells) xs.length) (fun pre => ∃ k, k ≤ xs.length ∧ pre = upTo (eltAt xs cells) k) xs.length w := by
  obtain ⟨a, c, cells, rfl, l1, l2, l3, l4, l5⟩ := h
  have hsl : ∀ k (hk : k < xs.length), ∃ a' n' c', cells[k * 2 + 1]? = some (.slice a' n' c') ∧ cells[k * 2]? = some (.int .i64 xs[k].at_) ∧ Go.Proofs.Ytpciankfpagnhaa.Bs S w0 (.slice a' n' c') xs[k].data := by
    intro k hk
    obtain ⟨vd, hd, hv⟩ := l4 k _ (List.getElem?_eq_getElem hk)
    obtain ⟨q0, q1⟩ := take2 hd
    obtain ⟨a', c', rfl, _, _⟩ := hv.open
    exact ⟨a', _, c', q1, q0, hv⟩
  refine ⟨cells, fun k hk => ?_, ?_⟩
  · obtain ⟨a', n', c', e1, _, hv⟩ := hsl k hk
    rw [List.getD_eq_getElem?_getD, e1]; exact hv
  · intro l J Jx W hW _ _ hY h0
    have hc' := (hW.cell (p := ⟨Bs, 0, none⟩) hBs).trans hc
    rcases l5 with rfl | ⟨b, o, rfl, hb, l5⟩
    · exact (back0_in l Bs a c J W hc' h0).mono fun e W' ⟨he, hj⟩ => ⟨he, .inl ⟨_, rfl, hj⟩⟩
    · have he : ∀ k, k < xs.length → W.cell? ⟨b, o + k * 2, none⟩ = some (.int .i64 (xs.getD k ⟨0, []⟩).at_) ∧ W.cell? ⟨b, o + k * 2 + 1, none⟩ = some (.slice (slOf (cells.getD (k * 2 + 1) undef)).1 (slOf (cells.getD (k * 2 + 1) undef)).2.1 (slOf (cells.getD (k * 2 + 1) undef)).2.2) := by
        intro k hk
        obtain ⟨a', n', c', e1, e0, _⟩ := hsl k hk
        refine ⟨?_, ?_⟩
        · rw [(hW.cell (p := ⟨b, o + k * 2, none⟩) (Nat.lt_of_lt_of_le hb.1 hx.size)), hx.cell (l5 _ _ e0), List.getD_eq_getElem?_getD, List.getElem?_eq_getElem hk]; rfl
        · rw [(hW.cell (p := ⟨b, o + k * 2 + 1, none⟩) (Nat.lt_of_lt_of_le hb.1 hx.size)), Nat.add_assoc, hx.cell (l5 _ _ e1), List.getD_eq_getElem?_getD, e1]; rfl
      exact back1_in l Bs w.heap.size b o xs.length c (fun k => (xs.getD k ⟨0, []⟩).at_) (fun k => (slOf (cells.getD (k * 2 + 1) undef)).1) (fun k => (slOf (cells.getD (k * 2 + 1) undef)).2.1) (fun k => (slOf (cells.getD (k * 2 + 1) undef)).2.2) hl (Nat.lt_of_lt_of_le hb.1 hx.size) hBs J Jx hY W hc' he h0

set_option maxHeartbeats 400000 in
theorem backward_ok (w : World) (a : Option Addr) (n c : Nat) :
    CallsIn Fence.wide 1 Try.prog 61 #[.slice a n c] w fun e w' => e = .returned (.func (.func 80) #[] #[.pointer (some ⟨w.heap.size, 0, none⟩)]) ∧ w' = w.alloc (.cells #[.slice a n c] 23) := by
  refine callsIn_of_wp Try.func61 rfl trivial ?_ rfl
  simp only [Try.ntmps61, List.size_toArray, List.length_cons, List.length_nil, Nat.reduceAdd, Nat.reduceSub, Array.replicate_succ, Array.replicate_zero, List.push_toArray, List.append_toArray, List.nil_append, List.cons_append]
  gi_wp2
  go_ret
  exact ⟨rfl, rfl⟩
end Go.Proofs.Ytpciankfpagnhaa

/- What disk.Read does. -/
namespace Go.Proofs.Ytpciankfpagnhaa
open Go.RowKit Go.Shelf

attribute [local go_sem] Oper.semAt_some

/-- What Read answers. -/
def readL (d : Dk) (i : Int) : List UInt8 :=
  match d.pending.reverse.find? (fun x => x.at_ == i) with
  | some x => x.data
  | none => d.sectors.getD i.toNat []
def readD (d : Dk) (i : Int) : List UInt8 × Int := if (runsD d && hasD d i) = true then (readL d i, 0) else ([], 410)
def BytesErr (S : Nat → Prop) (w : World) (x : List UInt8 × Int) (e : Ending) (w' : World) : Prop := ∃ v, e = .returned (.tuple #[v, .int .i64 x.2]) ∧ Bs S w' v x.1 ∧ Ext w w'

theorem BytesErr.mk {S : Nat → Prop} {w w' : World} {x : List UInt8 × Int} {v : Value} {n : Int} {l : List UInt8} (h : x = (l, n)) (hd : Bs S w' v l) (hx : Ext w w') : BytesErr S w x (.returned (.tuple #[v, .int .i64 n])) w' := by
  subst h; exact ⟨v, rfl, hd, hx⟩
theorem Ext.setCell2 {a w : World} {B C : Nat} {u v : Value} (h : Ext a w) (hb : a.heap.size ≤ B) (hc : a.heap.size ≤ C) : Ext a ((w.setCell ⟨B, 0, none⟩ u).setCell ⟨C, 0, none⟩ v) := (h.setCell (p := ⟨B, 0, none⟩) hb u).setCell (p := ⟨C, 0, none⟩) hc v

theorem Ext.trans' {a b c : World} (h : Ext a b) (k : Below a.heap.size b c) : Ext a c := Below.trans h k
theorem readL_hit (d : Dk) (i : Int) (k : Nat) (hk : k < d.pending.length) (h1 : ∀ j (hj : j < k), (d.pending[d.pending.length - 1 - j]'(by omega)).at_ ≠ i) (h2 : (d.pending[d.pending.length - 1 - k]'(by omega)).at_ = i) :
    readL d i = (d.pending[d.pending.length - 1 - k]'(by omega)).data := by
  have : d.pending.reverse.find? (fun x => x.at_ == i) = some (d.pending[d.pending.length - 1 - k]'(by omega)) := by
    rw [List.find?_eq_some_iff_getElem]
    refine ⟨by simpa using h2, k, by simpa using hk, by rw [List.getElem_reverse], fun j hj => ?_⟩
    rw [List.getElem_reverse]
    simpa using h1 j hj
  unfold readL; rw [this]
theorem readL_miss (d : Dk) (i : Int) (h1 : ∀ j (hj : j < d.pending.length), (d.pending[d.pending.length - 1 - j]'(by omega)).at_ ≠ i) : readL d i = d.sectors.getD i.toNat [] := by
  have : d.pending.reverse.find? (fun x => x.at_ == i) = none := by
    rw [List.find?_eq_none]
    intro x hx
    obtain ⟨j, hj, rfl⟩ := List.getElem_of_mem hx
    rw [List.getElem_reverse]
    simpa using h1 j (by simpa using hj)
  unfold readL; rw [this]

set_option maxRecDepth 100000 in
set_option maxHeartbeats 2000000 in
theorem read_ok {S : Nat → Prop} (w : World) (v : Value) (d : Dk) (i : Int) (h : Disk S w v d) : Calls Try.prog 28 #[v, .int .i64 i] w (BytesErr S w (readD d i)) := by
  obtain ⟨a, c, a2, c2, rfl, hc, hm, hc2, hm2, h1, h2⟩ := h.open
  have H := Lib.hid h; clear h
  have H1 := Lib.hid h1; clear h1
  have H2 := Lib.hid h2; clear h2
  refine (callsIn_wide (n := 2)).1 ?_
  refine callsIn_of_wp_marks Try.func28 rfl trivial ?_ rfl
  simp only [Try.ntmps28, List.size_toArray, List.length_cons, List.length_nil, Nat.reduceAdd, Nat.reduceSub, Array.replicate_succ, Array.replicate_zero, List.push_toArray, List.append_toArray, List.nil_append, List.cons_append]
  gi_wp2_with fail
  refine ⟨trivial, (callsIn_wide.2 (runs_ok _ _ d (H.out.keep (((((Ext.refl _).alloc _).alloc _).alloc _).alloc _)))).mono ?_⟩
  rintro e w1 ⟨rfl, hx⟩
  have hE := (((((Ext.refl w).alloc _).alloc _).alloc _).alloc _).trans hx
  have B0 := Lib.hid (((((Box.new w _ _).past _).past _).past _).keep hx)
  have B1 := Lib.hid ((((Box.at (b := w.heap.size + 1) (by simp)).past _).past _).keep hx)
  have B2 := Lib.hid (((Box.at (b := w.heap.size + 1 + 1) (by simp)).past _).keep hx)
  have B3 := Lib.hid ((Box.at (b := w.heap.size + 1 + 1 + 1) (by simp)).keep hx)
  clear hx
  obtain ⟨c00, c01, c02, c03, f00, f01, f02, f03⟩ := B0.out.four
  obtain ⟨c10, f10⟩ := B1.out.one
  obtain ⟨c20, f20⟩ := B2.out.one
  obtain ⟨c30, f30⟩ := B3.out.one
  cases hr : runsD d
  · gi_wp2_with fail
    refine ⟨trivial, ?_⟩
    gi_wp2_with fail
    refine ⟨.tuple #[.slice none 0 0, .int .i64 410], ?_, BytesErr.mk (l := []) (by simp [readD, hr]) (Sl.nil _ _ _ _) (hE.setCell2 (by omega) (by omega))⟩
    simp [results, Try.results28, go_sem, *]
  gi_wp2_with fail
  refine ⟨trivial, ?_⟩
  gi_wp2_with fail
  refine (callsIn_wide.2 (has_ok _ _ d i (H.out.keep hE))).mono ?_
  rintro e w2 ⟨rfl, hx⟩
  have hE2 := hE.trans hx; clear hE
  have K0 := Lib.hid (B0.out.keep hx); clear B0
  have K1 := Lib.hid (B1.out.keep hx); clear B1
  have K2 := Lib.hid (B2.out.keep hx); clear B2
  have K3 := Lib.hid (B3.out.keep hx); clear B3
  clear hx c00 c01 c02 c03 f00 f01 f02 f03 c10 f10 c20 f20 c30 f30
  obtain ⟨c00, c01, c02, c03, f00, f01, f02, f03⟩ := K0.out.four
  obtain ⟨c10, f10⟩ := K1.out.one
  obtain ⟨c20, f20⟩ := K2.out.one
  obtain ⟨c30, f30⟩ := K3.out.one
  cases hh : hasD d i
  · gi_wp2_with fail
    refine ⟨.tuple #[.slice none 0 0, .int .i64 410], ?_, BytesErr.mk (l := []) (by simp [readD, hh]) (Sl.nil _ _ _ _) (hE2.setCell2 (by omega) (by omega))⟩
    simp [results, Try.results28, go_sem, *]
  gi_wp2_with fail
  refine ⟨trivial, ?_⟩
  refine (backward_ok _ _ _ _).mono ?_
  rintro e w3 ⟨rfl, hw3⟩
  have hw3' := hw3.symm; subst hw3'; clear hw3
  gi_wp2_with fail
  have hpl : d.pending.length ≤ 4096 := by have := (okD_iff d).1 (by unfold runsD at hr; simp at hr; exact hr.1); omega
  have hE3 := hE2.alloc (.cells #[.slice a2 d.pending.length c2] 23)
  have L0 := Lib.hid (K0.out.past (.cells #[.slice a2 d.pending.length c2] 23)); clear K0
  have L1 := Lib.hid (K1.out.past (.cells #[.slice a2 d.pending.length c2] 23)); clear K1
  have L2 := Lib.hid (K2.out.past (.cells #[.slice a2 d.pending.length c2] 23)); clear K2
  have L3 := Lib.hid (K3.out.past (.cells #[.slice a2 d.pending.length c2] 23)); clear K3
  have L4 := Box.new w2 [.slice a2 d.pending.length c2] 23
  obtain ⟨cells, hcl, hseq⟩ := back_stops (S := S) w2.heap.size (.slice a2 d.pending.length c2) d.pending w (w2.alloc (.cells #[.slice a2 d.pending.length c2] 23)) hE3 (by omega) (by simp) L4.one.1 H2.out
  have HCL := Lib.hid hcl; clear hcl
  have HSEQ := Lib.hid hseq; clear hseq
  clear c00 c01 c02 c03 f00 f01 f02 f03 c10 f10 c20 f20 c30 f30 L4
  generalize hwL : w2.alloc (.cells #[.slice a2 d.pending.length c2] 23) = wL at *
  clear hwL
  refine wpIn_rangeFunc_ownH rfl (by decide) (gf := 80) (lb := #[.pointer (some ⟨w2.heap.size, 0, none⟩)]) rfl trivial (enters_of Try.func80 (by kernel_rfl) rfl) HSEQ.out belowK_t (belowK_b (Nat.le_refl _)) (Below.refl _ _) (fun _ => rfl)
    (fun pre W => (∀ p ∈ pre, Elt.at_ p ≠ i) ∧ Below wL.heap.size wL W)
    (fun cd pre W => (cd = .ret ∧ ∃ ini last, pre = ini ++ [last] ∧ (∀ p ∈ ini, Elt.at_ p ≠ i) ∧ Elt.at_ last = i ∧ W.cell? ⟨w.heap.size + 1 + 1, 0, none⟩ = some (.slice last.a last.n last.c) ∧ W.cell? ⟨w.heap.size + 1 + 1 + 1, 0, none⟩ = some (.int .i64 0)) ∧ Below w.heap.size w W)
    (OwnFrom.and (ownFrom_pure _ _) (ownFrom_below (Nat.le_refl _) (Nat.le_refl _)))
    (fun cd => OwnFrom.and (Own.from (fun s A B row hs hg hr => by obtain ⟨h0, ini, last, e1, e2, e3, e4, e5⟩ := hs; exact ⟨h0, ini, last, e1, e2, e3, cell_kept e4 hg hr, cell_kept e5 hg hr⟩) _) (ownFrom_below (Nat.le_refl _) hE3.size))
    ⟨by simp, Below.refl _ _⟩
    (fun x a' W => ∃ Bx, wL.heap.size ≤ Bx ∧ W.heap[Bx]? = some (.cells #[.int .i64 x.at_, .slice x.a x.n x.c] 76 (0, 0)) ∧ a' = { tmps := #[.agg #[.slice a d.sectors.length c, .slice a2 d.pending.length c2, .int .i64 d.left, .bool d.stopped], .int .i64 i, .pointer (some ⟨w.heap.size, 0, none⟩), .pointer (some ⟨w.heap.size + 1, 0, none⟩), .pointer (some ⟨w.heap.size + 1 + 1, 0, none⟩), .pointer (some ⟨w.heap.size + 1 + 1 + 1, 0, none⟩), undef, .pointer (some ⟨Bx, 0, none⟩), .agg #[.slice a d.sectors.length c, .slice a2 d.pending.length c2, .int .i64 d.left, .bool d.stopped], .bool true, .bool false, .bool false, .agg #[.slice a d.sectors.length c, .slice a2 d.pending.length c2, .int .i64 d.left, .bool d.stopped], .int .i64 i, .bool true, .bool false, .bool false, .pointer (some ⟨w.heap.size, 1, none⟩), .slice a2 d.pending.length c2, .func (.func 80) #[] #[.pointer (some ⟨w2.heap.size, 0, none⟩)], .int .i64 x.ix, .agg #[.int .i64 x.at_, .slice x.a x.n x.c], undef, undef, undef, undef, undef, undef, undef, undef, undef, undef, undef], defers := [] }) ?hAx ?assign ?body ?done ?stop
  case hAx =>
    rintro x a' s W W' row ⟨Bx, h1, h2, h3⟩ hg hr
    refine ⟨Bx, h1, (hg.block Bx (Array.getElem?_eq_some_iff.1 h2).1 (fun e => ?_)).trans h2, h3⟩
    obtain ⟨_, o, ho, hc⟩ := hr Bx e.symm
    rw [h2] at ho; cases ho; simp [Obj.isCells] at hc
  case assign =>
    rintro l pre x W K ⟨hp, hB⟩ hK
    simp only [Elt.enc]
    gi_wp2
    exact hK _ _ ((KeepsOthers.alloc _ _).from _) ((Below.refl _ W).alloc hB.size _) ⟨hp, hB.alloc hB.size _⟩ ⟨W.heap.size, hB.size, heap_alloc_new W _, rfl⟩
  case body =>
    rintro l pre x a' W hl ⟨r, hr0⟩ ⟨hp, hB⟩ ⟨Bx, hBx, bX, rfl⟩ hlt
    have hBE : Ext wL W := hB
    obtain ⟨c70, c71, f70, f71⟩ := (show Box W Bx [.int .i64 x.at_, .slice x.a x.n x.c] from ⟨76, bX⟩).two
    obtain ⟨c10, f10⟩ := (L1.out.keep hBE).one
    obtain ⟨c20, f20⟩ := (L2.out.keep hBE).one
    obtain ⟨c30, f30⟩ := (L3.out.keep hBE).one
    clear bX hr0
    by_cases hat : x.at_ = i
    · have hat' : (x.at_ == i) = true := by simp [hat]
      have HAT := Lib.hid hat; clear hat
      gi_wp2
      refine ⟨((KeepsOthers.setCell _ _ _).trans (KeepsOthers.setCell _ _ _)).from _, ⟨rfl, pre, x, rfl, hp, HAT.out, ?_, ?_⟩, (hE3.trans hBE).setCell2 (by omega) (by omega)⟩
      · go_simp
      · go_simp
    · have hat' : (x.at_ == i) = false := by simp [hat]
      have HAT := Lib.hid hat; clear hat
      gi_wp2
      exact ⟨KeepsFrom.refl _ _, Below.refl _ _, fun p hp' => (List.mem_append.1 hp').elim (hp p) (fun e => by simp at e; subst e; exact HAT.out), hB⟩
  case done =>
    rintro D ys W hD rfl ⟨hp, hB⟩ hK
    have hBE : Ext wL W := hB
    obtain ⟨c00, c01, c02, c03, f00, f01, f02, f03⟩ := (L0.out.keep hBE).four
    obtain ⟨c10, f10⟩ := (L1.out.keep hBE).one
    obtain ⟨c20, f20⟩ := (L2.out.keep hBE).one
    obtain ⟨c30, f30⟩ := (L3.out.keep hBE).one
    have hh' := hh
    unfold hasD at hh'
    simp at hh'
    obtain ⟨m, hm⟩ := Int.eq_ofNat_of_zero_le hh'.1
    have hm2' : m < d.sectors.length := by omega
    have hEW := hE3.trans hBE
    obtain ⟨bb, oo, vd, rfl, hbb, x0, hv⟩ := H1.out.elem hm2'
    have y0 := hEW.cell x0
    obtain ⟨a3, c3, rfl, hc3, hm3⟩ := hv.open
    have hrl : readL d i = d.sectors[m] := by
      rw [readL_miss d i (fun j hj => by
        have := hp (eltAt d.pending cells j) (by simp only [upTo, List.mem_map, List.mem_range]; exact ⟨j, hj, rfl⟩)
        simpa [eltAt, List.getD_eq_getElem?_getD, List.getElem?_eq_getElem (show d.pending.length - 1 - j < d.pending.length by omega)] using this)]
      rw [hm, Int.toNat_natCast, List.getD_eq_getElem?_getD, List.getElem?_eq_getElem hm2']; rfl
    have HRL := Lib.hid hrl; clear hrl
    have HV := Lib.hid hv; clear hv
    subst hm
    generalize d.sectors[m] = sx at *
    have hmi : (m : Int) < d.sectors.length := hh'.2
    have hmi0 : (0 : Int) ≤ m := hh'.1
    clear hh' hp
    gi_wp2
    have hK' := ((KeepsOthers.setCell W ⟨w.heap.size + 1 + 1, 0, none⟩ (.slice a3 sx.length c3)).trans (KeepsOthers.setCell _ ⟨w.heap.size + 1 + 1 + 1, 0, none⟩ (.int .i64 0))).same D _ hK rfl
    refine ⟨by simp, .inl ⟨_, _, rfl, run_takeDeferred hK', ?_⟩⟩
    have q1 : ((W.setCell ⟨w.heap.size + 1 + 1, 0, none⟩ (.slice a3 sx.length c3)).setCell ⟨w.heap.size + 1 + 1 + 1, 0, none⟩ (.int .i64 0)).cell? ⟨w.heap.size + 1 + 1, 0, none⟩ = some (.slice a3 sx.length c3) := by go_simp
    have q2 : ((W.setCell ⟨w.heap.size + 1 + 1, 0, none⟩ (.slice a3 sx.length c3)).setCell ⟨w.heap.size + 1 + 1 + 1, 0, none⟩ (.int .i64 0)).cell? ⟨w.heap.size + 1 + 1 + 1, 0, none⟩ = some (.int .i64 0) := by go_simp
    have r1 := cell_kept q1 (grownBy_putObj' _ D (.deferred none)) (fun r e => by cases e; exact ⟨_, hK', rfl⟩)
    have r2 := cell_kept q2 (grownBy_putObj' _ D (.deferred none)) (fun r e => by cases e; exact ⟨_, hK', rfl⟩)
    have hEf : Ext w (((W.setCell ⟨w.heap.size + 1 + 1, 0, none⟩ (.slice a3 sx.length c3)).setCell ⟨w.heap.size + 1 + 1 + 1, 0, none⟩ (.int .i64 0)).putObj D (.deferred none)) := (hEW.setCell2 (by omega) (by omega)).trans' (belowK_b (w := w) (Nat.le_refl _) _ D _ _ (Nat.le_trans hE3.size hD) hK' rfl rfl)
    refine ⟨.tuple #[.slice a3 sx.length c3, .int .i64 0], ?_, BytesErr.mk (l := sx) (by rw [← HRL.out]; simp [readD, hr, hh]) (HV.out.keep hEf) hEf⟩
    simp [results, Try.results28, go_sem, r1, r2]
  case stop =>
    rintro D cd pre W hD ⟨k, hk, rfl⟩ ⟨⟨rfl, ini, last, e1, e2, e3, hc1, hc2⟩, hB⟩ hK
    obtain ⟨k', rfl⟩ : ∃ k', k = k' + 1 := by
      cases k with
      | zero => simp [upTo] at e1
      | succ k' => exact ⟨k', rfl⟩
    rw [upTo_succ] at e1
    obtain ⟨rfl, e5⟩ := List.append_inj' e1 rfl
    obtain rfl : eltAt d.pending cells k' = last := by simpa using e5
    have hq : d.pending.length - 1 - k' < d.pending.length := by omega
    have hrl : readL d i = d.pending[d.pending.length - 1 - k'].data := by
      refine readL_hit d i k' (by omega) (fun j hj => ?_) ?_
      · have := e2 (eltAt d.pending cells j) (by simp only [upTo, List.mem_map, List.mem_range]; exact ⟨j, hj, rfl⟩)
        simpa [eltAt, List.getD_eq_getElem?_getD, List.getElem?_eq_getElem (show d.pending.length - 1 - j < d.pending.length by omega)] using this
      · simpa [eltAt, List.getD_eq_getElem?_getD, List.getElem?_eq_getElem hq] using e3
    have hv := HCL.out _ hq
    clear e2 e3 e1 e5
    have r1 := cell_kept hc1 (grownBy_putObj' _ D (.deferred none)) (fun r e => by cases e; exact ⟨_, hK, rfl⟩)
    have r2 := cell_kept hc2 (grownBy_putObj' _ D (.deferred none)) (fun r e => by cases e; exact ⟨_, hK, rfl⟩)
    have hEf : Ext w (W.putObj D (.deferred none)) := Ext.trans' hB (belowK_b (w := w) (Nat.le_refl _) _ D _ _ (Nat.le_trans hE3.size hD) hK rfl rfl)
    gi_wp2
    refine ⟨by simp, .inl ⟨_, _, rfl, run_takeDeferred hK, ?_⟩⟩
    refine ⟨.tuple #[.slice (eltAt d.pending cells k').a (eltAt d.pending cells k').n (eltAt d.pending cells k').c, .int .i64 0], ?_, BytesErr.mk (l := d.pending[d.pending.length - 1 - k'].data) (by rw [← hrl]; simp [readD, hr, hh]) (hv.keep hEf) hEf⟩
    simp [results, Try.results28, go_sem, r1, r2]
end Go.Proofs.Ytpciankfpagnhaa

/- A range over an iterator that hands on slices which it has made: what is handed on is known to the body, with what it reads as. -/
namespace Go.Proofs.Ytpciankfpagnhaa
open Go.RowKit

/-- The blocks that a body may change: one box of the caller's, and whatever is newer than n. -/
def Free (g n : Nat) : Nat → Prop := fun k => k = g ∨ n ≤ k
/-- How a round ends. -/
def postT {α : Type} (g n : Nat) (I : List α → World → Prop) (xs : List α) (W : World) : Exit → Act → World → Prop
  | .normal, _, W' => KeepsFrom n W W' ∧ Mem (Free g n) W W' ∧ I xs W'
  | _, _, _ => False
/-- What speaks of cells alone: it is kept when a block that holds no cells is turned. -/
def Still {β : Type} (n : Nat) (I : β → World → Prop) : Prop := ∀ s W l o o', I s W → n ≤ l → W.heap[l]? = some o → o.isCells = false → I s (W.putObj l o')
theorem mem_putObj {g n l : Nat} (hl : n ≤ l) (W : World) (o : Obj) : Mem (Free g n) W (W.putObj l o) :=
  ⟨Nat.le_of_eq (by simp), fun k _ hk => World.putObj_heap_other (fun e => hk (.inr (by omega)))⟩
/-- What an iterator hands on that makes its slices: T says what is known of a slice, by the world behind the last round. -/
def SeqT {α : Type} (P : Program) (gf : Nat) (lb : Array Value) (encs : α → Array Value) (T : α → World → World → Prop) (g n N : Nat) (S : List α → Prop) (w : World) : Prop :=
  ∀ (l : Nat) (J : List α → World → Prop) (W : World), Ext w W →
    (∀ pre x Wl W1, J pre Wl → pre.length < N → Ext Wl W1 → T x Wl W1 → YieldAt Fence.wide 0 P l (encs x) W1 fun e W' => e = .returned (.bool true) ∧ J (pre ++ [x]) W' ∧ Mem (Free g n) W1 W') →
    J [] W → CallsIn Fence.wide 1 P gf (#[.func (.yield l) #[] #[]] ++ lb) W fun e W' => (∃ v, e = .returned v) ∧ ∃ xs Wl, S xs ∧ J xs Wl ∧ Ext Wl W'

theorem wpIn_rangeFunc_t {α : Type} {P : Program} {gop : Operand} {ps : Array Tmp} {assign body : Code} {Q : Exit → Act → World → Prop} {a : Act} {w : World}
    {gf : Nat} {lb : Array Value} (hg : a.eval gop = .func (.func gf) #[] lb) (eg : ∀ args w, (callFunc gf args).run P w = .ok (.enter gf args) w)
    {encs : α → Array Value} {T : α → World → World → Prop} {g N : Nat} {S : List α → Prop} (hseq : SeqT P gf lb encs T g w.heap.size N S w) (hps : ∀ x, (encs x).size = ps.size)
    (I : List α → World → Prop) (IT : List α → α → World → Prop) (hx : ∀ s W W', I s W → Ext W W' → I s W') (hI : Still w.heap.size I) (hIT : ∀ pre, Still w.heap.size (IT pre))
    (hT : ∀ pre x Wl W, I pre Wl → Ext Wl W → T x Wl W → IT pre x W) (h0 : I [] w) (a₁ : α → Act)
    (hassign : ∀ (l : Nat) (x : α) (W : World) (K : Act → World → Prop), K (a₁ x) W →
      assign.wpIn (Fence.wide.inRound l) 0 P (Exit.then K (fun _ _ _ => False)) { tmps := (ps.zip (encs x)).foldl (fun t (p, v) => t.setIfInBounds p v) a.tmps, defers := [] } W)
    (hbody : ∀ (l : Nat) (pre : List α) (x : α) (W : World), pre.length < N → IT pre x W → body.wpIn (Fence.wide.inRound l) 0 P (postT g w.heap.size I (pre ++ [x]) W) (a₁ x) W)
    (hdone : ∀ (D : Nat) (xs : List α) (W : World), w.heap.size ≤ D → S xs → I xs W → W.heap[D]? = some (.deferred (some [])) → Q .normal { a with defers := { target := .collected D, args := #[] } :: a.defers } W) :
    (Code.rangeFunc gop ps assign body).wpIn Fence.wide 2 P Q a w := by
  refine wpIn_rangeFunc ?_
  intro fn hfn
  obtain ⟨rec, hrec⟩ : ∃ rec : LoopState → Option Code → Loop, rec = fun st pe => { state := st, pending := pe, fn, tmps := a.tmps, params := ps, assign, body, defers := w.heap.size } := ⟨_, rfl⟩
  obtain ⟨W1, hW1⟩ : ∃ W1, (w.alloc (.deferred (some []))).alloc (.loop (rec .ready none)) = W1 := ⟨_, rfl⟩
  have hL : W1.heap[w.heap.size + 1]? = some (.loop (rec .ready none)) := by
    rw [← hW1]; have := World.alloc_heap_new (w.alloc (.deferred (some []))) (.loop (rec .ready none)); rwa [World.size_alloc] at this
  have hD : W1.heap[w.heap.size]? = some (.deferred (some [])) := by
    rw [← hW1]; exact (Below.heap_alloc _ _ _ (by simp)).trans (World.alloc_heap_new w _)
  have hE1 : Ext w W1 := by rw [← hW1]; exact ((Ext.refl w).alloc _).alloc _
  refine ⟨w.heap.size + 1, [{ target := .collected w.heap.size, args := #[] }], W1, { target := .fn (.func gf) lb, args := #[.func (.yield (w.heap.size + 1)) #[] #[]] }, W1, gf,
    #[.func (.yield (w.heap.size + 1)) #[] #[]] ++ lb, W1, ?_, ?_, ?_, ?_, fun _ => by decide, ?_⟩
  · rw [← hW1, hrec]; exact run_enterLoop_outer _ _ _ _ _
  · simp only [resolve, hg]
    simp [go_sem]
  · intro f' hf'; simp [Target.leads] at hf'; subst hf'; trivial
  · simp [invoke, go_sem, eg]
  · refine (hseq (w.heap.size + 1) (fun pre W => I pre W ∧ W.heap[w.heap.size + 1]? = some (.loop (rec .ready none)) ∧ W.heap[w.heap.size]? = some (.deferred (some []))) W1 hE1 ?_ ⟨hx _ _ _ h0 hE1, hL, hD⟩).mono ?_
    · rintro pre x Wl W ⟨hi, hl, hk⟩ hN hxt ht
      have hlt : w.heap.size + 1 < Wl.heap.size := (Array.getElem?_eq_some_iff.1 hl).1
      replace hl : W.heap[w.heap.size + 1]? = some (.loop (rec .ready none)) := by rw [Below.block hxt _ hlt]; exact hl
      replace hk : W.heap[w.heap.size]? = some (.deferred (some [])) := by rw [Below.block hxt _ (by omega)]; exact hk
      have hlt2 : w.heap.size + 1 < W.heap.size := (Array.getElem?_eq_some_iff.1 hl).1
      have hit := hT _ _ _ _ hi hxt ht
      have hy := run_yield (P := P) (args := encs x) hl (by rw [hrec]; exact hps x)
      rw [hrec] at hy
      refine ⟨fn, _, assign, body, hy, roundIn_of_wpIn hfn (hassign _ x W _ ⟨_, run_beginRound hl (by rw [hrec]), ?_⟩)⟩
      clear hy
      have hl2 : (W.putObj (w.heap.size + 1) (.loop { rec .ready none with state := .busy })).heap[w.heap.size + 1]? = some (.loop { rec .ready none with state := .busy }) := World.putObj_heap_same hlt2
      have hk2 : (W.putObj (w.heap.size + 1) (.loop { rec .ready none with state := .busy })).heap[w.heap.size]? = some (.deferred (some [])) := (World.putObj_heap_other (by omega)).trans hk
      refine wpIn_mono (hbody _ pre x _ hN (hIT pre _ _ _ _ _ hit (by omega) hl rfl)) ?_
      rintro e a3 W3 hp
      cases e with
      | normal =>
        obtain ⟨hk3, hm3, hi3⟩ := hp
        have hl3 := hk3.same _ _ (by omega) hl2 rfl
        have hd3 := hk3.same _ _ (Nat.le_refl _) hk2 rfl
        have hr := run_endRound (P := P) none hl3
        rw [hrec] at hr
        refine ⟨_, _, hr, rfl, ⟨hI _ _ _ _ _ hi3 (by omega) hl3 rfl, ?_, ?_⟩, ?_⟩
        · rw [hrec]; exact World.putObj_heap_same (Array.getElem?_eq_some_iff.1 hl3).1
        · exact (World.putObj_heap_other (by omega)).trans hd3
        · exact ((mem_putObj (by omega) W _).trans hm3).trans (mem_putObj (by omega) W3 _)
      | ret => exact hp.elim
      | exit id => exact hp.elim
      | goto t => exact hp.elim
      | panic ch => exact hp.elim
      | outgrown => exact hp.elim
    · rintro e W2 ⟨⟨v, rfl⟩, xs, Wl, hS, ⟨hi, hl, hk⟩, hxt⟩
      have hlt : w.heap.size + 1 < Wl.heap.size := (Array.getElem?_eq_some_iff.1 hl).1
      replace hl : W2.heap[w.heap.size + 1]? = some (.loop (rec .ready none)) := by rw [Below.block hxt _ hlt]; exact hl
      replace hk : W2.heap[w.heap.size]? = some (.deferred (some [])) := by rw [Below.block hxt _ (by omega)]; exact hk
      refine ⟨none, _, by have := run_endLoop (P := P) hl (by rw [hrec]; simp); rw [hrec] at this; exact this, ?_⟩
      exact hdone _ xs _ (Nat.le_refl _) hS (hI _ _ _ _ _ (hx _ _ _ hi hxt) (by omega) hl rfl) ((World.putObj_heap_other (by omega)).trans hk)
end Go.Proofs.Ytpciankfpagnhaa
