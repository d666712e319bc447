/- How acts that came in read. -/
import Derived.Test.YtpciankfpagnhaaR2
import Derived.Test.YtpciankfpagnhaaM6
namespace Go.Proofs.Ytpciankfpagnhaa
open Go.ChangeShapes Go.WideShapes Go.ChangeAt Go.RowKit Go.Deep

theorem Try.okT43 : Try.prog.readableRec 43 = true ∧ 43 < Try.prog.types.size := ⟨by kernel_rfl, of_decide_eq_true (by kernel_rfl)⟩
section
variable {H : Type} {enc : TypeId × Value → H} {w : World}
def RAc (_ : Ac) (_ : DataW H) : Prop := True
set_option maxRecDepth 100000 in
theorem ac_open (n : Nat) (cs' : List Value) (y : DataW H × List MemPlace) (h : DataW.trod enc Try.prog w 0 (fun _ => true) true n 46 cs' = some y) (hl : cs'.length = 3) :
    ∃ z : Ac, eAc (fun _ => False) w cs' z ∧ RAc z y.1 := by
  obtain ⟨xs, m, rfl, rfl, _, hx, hf⟩ := DataW.trod_struct Try.underlying46 h
  match cs', hl with
  | [u0, u1, u2], _ =>
    match xs, hx with
    | [x0, x1, x2], _ =>
      have h0 : DataW.trod enc Try.prog w 0 (fun _ => true) true m 4 (List.take (Try.prog.cellsOf 4) (List.drop 0 [u0, u1, u2])) = some x0 := hf 0 _ rfl
      have h1 : DataW.trod enc Try.prog w 0 (fun _ => true) true m 5 (List.take (Try.prog.cellsOf 5) (List.drop 1 [u0, u1, u2])) = some x1 := hf 1 _ rfl
      have h2 : DataW.trod enc Try.prog w 0 (fun _ => true) true m 5 (List.take (Try.prog.cellsOf 5) (List.drop 2 [u0, u1, u2])) = some x2 := hf 2 _ rfl
      rw [show Try.prog.cellsOf 4 = 1 from by kernel_rfl] at h0
      rw [show Try.prog.cellsOf 5 = 1 from by kernel_rfl] at h1 h2
      simp only [List.drop_zero, List.take_succ_cons, List.take_zero, List.drop_succ_cons] at h0 h1 h2
      obtain ⟨b1, e1, _⟩ := byte_open Try.underlying5 m _ _ h1 rfl
      obtain ⟨b2, e2, _⟩ := byte_open Try.underlying5 m _ _ h2 rfl
      unfold eByte at e1 e2
      cases e1
      cases e2
      cases m with
      | zero => simp [DataW.trod] at h0
      | succ m =>
        unfold DataW.trod at h0
        rw [Try.underlying4] at h0
        cases u0 <;> simp at h0
        rename_i s _ _
        exact ⟨⟨s, b1, b2⟩, rfl, trivial⟩
theorem Try.actsOpen {fuel : Nat} {cs : List Value} {x : DataW H × List MemPlace} (h : DataW.trod enc Try.prog w 0 (fun _ => true) true fuel 43 cs = some x) :
    ∃ v xs, cs = [v] ∧ Acs (fun _ => False) w v xs ∧ RSl RAc xs x.1 := sl_open (e := 46) (by kernel_rfl) (by kernel_rfl) (by omega) ac_open h
set_option maxRecDepth 100000 in
/-- A byte that came in. -/
theorem Try.u8Open {v : Value} {d : DataW H} {p : List MemPlace} {r : Reach} {b0 : Nat} (hv : Value.okWide Try.prog w r b0 5 v) (h : DataW.Trod enc Try.prog w 0 (fun _ => true) true 5 v d p) :
    ∃ x : UInt8, v = .int .u8 (x.toNat : Int) := by
  obtain ⟨i, rfl, _, _, _⟩ := open_int Try.underlying5 hv h
  obtain ⟨fuel, h⟩ := h
  obtain ⟨b, e, _⟩ := byte_open Try.underlying5 fuel _ _ h rfl
  unfold eByte at e
  exact ⟨b, by simpa [Value.cells] using e⟩
end
end Go.Proofs.Ytpciankfpagnhaa
