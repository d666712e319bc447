/- How a disk that came in reads. -/
import Derived.Test.YtpciankfpagnhaaR1
import Derived.Test.YtpciankfpagnhaaD12
import Derived.Lib.SmallJoins
namespace Go.Proofs.Ytpciankfpagnhaa
open Go.ChangeShapes Go.WideShapes Go.ChangeAt Go.RowKit Go.Deep

theorem Try.okT3 : Try.prog.readableRec 3 = true ∧ 3 < Try.prog.types.size := ⟨by kernel_rfl, of_decide_eq_true (by kernel_rfl)⟩
theorem Try.okT25 : Try.prog.readableRec 25 = true ∧ 25 < Try.prog.types.size := ⟨by kernel_rfl, of_decide_eq_true (by kernel_rfl)⟩
theorem Try.okT35 : Try.prog.readableRec 35 = true ∧ 35 < Try.prog.types.size := ⟨by kernel_rfl, of_decide_eq_true (by kernel_rfl)⟩
theorem Try.okT22 : Try.prog.readableRec 22 = true ∧ 22 < Try.prog.types.size := ⟨by kernel_rfl, of_decide_eq_true (by kernel_rfl)⟩
theorem Try.okT5 : Try.prog.readableRec 5 = true ∧ 5 < Try.prog.types.size := ⟨by kernel_rfl, of_decide_eq_true (by kernel_rfl)⟩
section
variable {H : Type} {enc : TypeId × Value → H} {w : World}
def RWr (x : Wr) (d : DataW H) : Prop := ∃ d0 d1, d = .agg [d0, d1] ∧ RSl RByte x.data d1
set_option maxRecDepth 100000 in
theorem wr_open (n : Nat) (cs' : List Value) (y : DataW H × List MemPlace) (h : DataW.trod enc Try.prog w 0 (fun _ => true) true n 76 cs' = some y) (hl : cs'.length = 2) :
    ∃ z : Wr, eWr (fun _ => False) w cs' z ∧ RWr z y.1 := by
  obtain ⟨xs, m, rfl, rfl, _, hx, hf⟩ := DataW.trod_struct Try.underlying76 h
  match cs', hl with
  | [u0, u1], _ =>
    match xs, hx with
    | [x0, x1], _ =>
      have h0 : DataW.trod enc Try.prog w 0 (fun _ => true) true m 3 (List.take (Try.prog.cellsOf 3) (List.drop 0 [u0, u1])) = some x0 := hf 0 _ rfl
      have h1 : DataW.trod enc Try.prog w 0 (fun _ => true) true m 35 (List.take (Try.prog.cellsOf 35) (List.drop 1 [u0, u1])) = some x1 := hf 1 _ rfl
      rw [show Try.prog.cellsOf 3 = 1 from by kernel_rfl] at h0
      rw [show Try.prog.cellsOf 35 = 1 from by kernel_rfl] at h1
      simp only [List.drop_zero, List.take_succ_cons, List.take_zero, List.drop_succ_cons] at h0 h1
      obtain ⟨v, l, e, hb, hr⟩ := Try.bytesOpen h1
      cases e
      cases m with
      | zero => simp [DataW.trod] at h0
      | succ m =>
        unfold DataW.trod at h0
        rw [Try.underlying3] at h0
        cases u0 <;> simp at h0
        rename_i k i _ _
        obtain ⟨⟨rfl, _⟩, _⟩ := h0
        exact ⟨⟨i, l⟩, ⟨_, rfl, hb⟩, _, _, rfl, hr⟩
theorem Try.writesOpen {fuel : Nat} {cs : List Value} {x : DataW H × List MemPlace} (h : DataW.trod enc Try.prog w 0 (fun _ => true) true fuel 23 cs = some x) :
    ∃ v xs, cs = [v] ∧ Wrs (fun _ => False) w v xs ∧ RSl RWr xs x.1 := sl_open (e := 76) (by kernel_rfl) (by kernel_rfl) (by omega) wr_open h

def RDk (x : Dk) (d : DataW H) : Prop := ∃ d0 d1 d2 d3, d = .agg [d0, d1, d2, d3] ∧ RSl (RSl RByte) x.sectors d0 ∧ RSl RWr x.pending d1
set_option maxRecDepth 100000 in
theorem Try.diskOpen {r : Reach} {b0 : Nat} {v : Value} {d : DataW H} {p : List MemPlace} (hv : Value.okWide Try.prog w r b0 25 v) (h : DataW.Trod enc Try.prog w 0 (fun _ => true) true 25 v d p) :
    ∃ x : Dk, Disk (fun _ => False) w v x ∧ RDk x d := by
  obtain ⟨v0, v1, v2, v3, y0, y1, y2, y3, n, rfl, rfl, rfl, h0, h1, h2, h3⟩ := Joins.open_agg4 Try.underlying25 (by kernel_rfl) (by kernel_rfl) hv h
  obtain ⟨u0, ss, e, hs, rs⟩ := Try.rowsOpen h0
  cases e
  obtain ⟨u1, ps, e, hp, rp⟩ := Try.writesOpen h1
  cases e
  cases n with
  | zero => simp [DataW.trod] at h2
  | succ m =>
    unfold DataW.trod at h2 h3
    rw [Try.underlying3] at h2
    rw [Try.underlying4] at h3
    cases v2 <;> simp at h2
    rename_i k i
    obtain ⟨⟨rfl, _⟩, _⟩ := h2
    cases v3 <;> simp at h3
    rename_i s
    exact ⟨⟨ss, ps, i, s⟩, ⟨_, _, rfl, hs, hp⟩, _, _, _, _, rfl, rs, rp⟩
set_option maxRecDepth 100000 in
theorem RDk.reach {x : Dk} {d : DataW H} (h : RDk x d) (hw : ∀ n ∈ d.weights Try.prog 25, n ≤ reachBytes) : ReachD x := by
  obtain ⟨d0, d1, d2, d3, rfl, h1, h2⟩ := h
  have e : (DataW.agg [d0, d1, d2, d3]).weights Try.prog 25 = d0.weights Try.prog 22 ++ (d1.weights Try.prog 23 ++ (d2.weights Try.prog 3 ++ (d3.weights Try.prog 4 ++ []))) := by
    simp only [DataW.weights, Try.underlying25]; rfl
  rw [e] at hw
  simp only [List.mem_append] at hw
  have w0 := (h1.weights Try.underlying22 (B := reachBytes) (fun n hn => hw n (.inl hn))).2
  have w1 := (h2.weights Try.underlying23 (B := reachBytes) (fun n hn => hw n (.inr (.inl hn)))).2
  refine ⟨fun l hl => ?_, fun l hl => ?_⟩
  · obtain ⟨y, hy, hn⟩ := w0 l hl
    have := (hy.weights Try.underlying35 hn).1
    rw [show Try.prog.bytesOf 5 = 1 from by kernel_rfl] at this
    unfold reachBytes at this; omega
  · obtain ⟨y, ⟨e0, e1, rfl, hy⟩, hn⟩ := w1 l hl
    have e : (DataW.agg [e0, e1]).weights Try.prog 76 = e0.weights Try.prog 3 ++ (e1.weights Try.prog 35 ++ []) := by
      simp only [DataW.weights, Try.underlying76]; rfl
    rw [e] at hn
    simp only [List.mem_append] at hn
    have := (hy.weights Try.underlying35 (fun n h => hn n (.inr (.inl h)))).1
    rw [show Try.prog.bytesOf 5 = 1 from by kernel_rfl] at this
    unfold reachBytes at this; omega
end
end Go.Proofs.Ytpciankfpagnhaa
