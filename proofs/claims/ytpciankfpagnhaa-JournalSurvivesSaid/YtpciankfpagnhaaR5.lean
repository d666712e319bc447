/- How a script of writings that came in reads. -/
import Derived.Test.YtpciankfpagnhaaR3
import Derived.Test.YtpciankfpagnhaaR4
import Derived.Test.YtpciankfpagnhaaJ36
namespace Go.Proofs.Ytpciankfpagnhaa
open Go.ChangeShapes Go.WideShapes Go.ChangeAt Go.RowKit Go.Deep

theorem Try.okT71 : Try.prog.readableRec 71 = true ∧ 71 < Try.prog.types.size := ⟨by kernel_rfl, of_decide_eq_true (by kernel_rfl)⟩
section
variable {H : Type} {enc : TypeId × Value → H} {w : World}
def RCr (x : Cr) (d : DataW H) : Prop := ∃ d0 d1 d2, d = .agg [d0, d1, d2] ∧ RSl (RSl RByte) x.records d0
set_option maxRecDepth 100000 in
theorem cr_open (n : Nat) (cs' : List Value) (y : DataW H × List MemPlace) (h : DataW.trod enc Try.prog w 0 (fun _ => true) true n 73 cs' = some y) (hl : cs'.length = 3) :
    ∃ z : Cr, eCr (fun _ => False) w cs' z ∧ RCr z y.1 := by
  obtain ⟨xs, m, rfl, rfl, _, hx, hf⟩ := DataW.trod_struct Try.underlying73 h
  match cs', hl with
  | [u0, u1, u2], _ =>
    match xs, hx with
    | [x0, x1, x2], _ =>
      have h0 : DataW.trod enc Try.prog w 0 (fun _ => true) true m 22 (List.take (Try.prog.cellsOf 22) (List.drop 0 [u0, u1, u2])) = some x0 := hf 0 _ rfl
      have h1 : DataW.trod enc Try.prog w 0 (fun _ => true) true m 4 (List.take (Try.prog.cellsOf 4) (List.drop 1 [u0, u1, u2])) = some x1 := hf 1 _ rfl
      have h2 : DataW.trod enc Try.prog w 0 (fun _ => true) true m 5 (List.take (Try.prog.cellsOf 5) (List.drop 2 [u0, u1, u2])) = some x2 := hf 2 _ rfl
      rw [show Try.prog.cellsOf 22 = 1 from by kernel_rfl] at h0
      rw [show Try.prog.cellsOf 4 = 1 from by kernel_rfl] at h1
      rw [show Try.prog.cellsOf 5 = 1 from by kernel_rfl] at h2
      simp only [List.drop_zero, List.take_succ_cons, List.take_zero, List.drop_succ_cons] at h0 h1 h2
      obtain ⟨v, ss, e, hs, rs⟩ := Try.rowsOpen h0
      cases e
      obtain ⟨b2, e2, _⟩ := byte_open Try.underlying5 m _ _ h2 rfl
      unfold eByte at e2
      cases e2
      cases m with
      | zero => simp [DataW.trod] at h1
      | succ m =>
        unfold DataW.trod at h1
        rw [Try.underlying4] at h1
        cases u1 <;> simp at h1
        rename_i s _ _
        exact ⟨⟨ss, s, b2⟩, ⟨_, rfl, hs⟩, _, _, _, rfl, rs⟩
theorem Try.crashesOpen {fuel : Nat} {cs : List Value} {x : DataW H × List MemPlace} (h : DataW.trod enc Try.prog w 0 (fun _ => true) true fuel 71 cs = some x) :
    ∃ v xs, cs = [v] ∧ Crs (fun _ => False) w v xs ∧ RSl RCr xs x.1 := sl_open (e := 73) (by kernel_rfl) (by kernel_rfl) (by omega) cr_open h
set_option maxRecDepth 100000 in
theorem RCrs.reach {l : List Cr} {d : DataW H} (h : RSl RCr l d) (hw : ∀ n ∈ d.weights Try.prog 71, n ≤ reachBytes) : ReachCrs l := by
  obtain ⟨-, w1⟩ := h.weights Try.underlying71 (B := reachBytes) hw
  intro x hx
  obtain ⟨y, ⟨d0, d1, d2, rfl, hy⟩, hn⟩ := w1 x hx
  have e : (DataW.agg [d0, d1, d2]).weights Try.prog 73 = d0.weights Try.prog 22 ++ (d1.weights Try.prog 4 ++ (d2.weights Try.prog 5 ++ [])) := by
    simp only [DataW.weights, Try.underlying73]; rfl
  rw [e] at hn
  simp only [List.mem_append] at hn
  exact (RRows.reach hy (fun n h => hn n (.inl h))).1
end
end Go.Proofs.Ytpciankfpagnhaa
