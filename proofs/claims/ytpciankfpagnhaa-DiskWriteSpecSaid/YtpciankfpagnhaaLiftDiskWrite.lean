/- For every disk, number and bytes the law DiskWriteSpec returns true, and its arguments read as before. No condition. -/
import Derived.Test.YtpciankfpagnhaaR2
import Derived.Test.YtpciankfpagnhaaD23
namespace Go.Proofs.Ytpciankfpagnhaa
open Go.ChangeShapes Go.WideShapes Go.ChangeAt Go.RowKit Go.Deep

set_option maxRecDepth 100000 in
theorem diskWriteSpec_lifted (os : Os) (started : os.Started) (H : Type) (enc : TypeId × Value → H) :
    ReturnsInHanded {} Try.checked os 4 .any (Rows.diskWriteSpecSpec.pre6 enc Try.prog Try.f4 Rows.diskWriteSpecRow.domain false) (Rows.diskWriteSpecSpec.post enc Try.prog Try.f4 false true false false) := by
  refine returnsInHanded_of_change_sized (C := Try.checked) Try.own started (by kernel_rfl) Try.func4
    (ChangeSpec.witness6 (enc := enc) (C := Try.checked) false ⟨#[], #[.agg #[.slice none 0 0, .slice none 0 0, .int .i64 0, .bool false], .int .i64 0, .slice none 0 0], []⟩ 8 (by kernel_rfl) (by kernel_rfl) (by kernel_rfl) (by kernel_rfl)) ?_
  intro W base args ds gs before hval0 hW _ hsized _
  have hval : ∀ (j : Nat) t v, Try.f4.params[j]? = some t → args[j]? = some v → Value.okWide Try.prog W .any base t v := hval0
  have hW' := hW
  obtain ⟨p, q, hA0, hV, rfl, hfz, hnd⟩ := hW
  have hA : DataW.TrodAll enc Try.prog W 0 (fun _ => true) true Try.f4.params.toList args.toList ds p := hA0
  rw [Try.params4] at hA hval
  obtain ⟨v0, v1, v2, d0, d1, d2, p0, p1, p2, rfl, rfl, rfl, h0, h1, h2⟩ := trodAll_three hA
  obtain ⟨rfl, rfl⟩ := trodVars_none hV
  obtain ⟨x0, hx0, rx0⟩ := Try.diskOpen (hval 0 25 v0 rfl rfl) h0
  have hr0 : ReachD x0 := rx0.reach fun n hn => by
    have hs := List.all_eq_true.1 hsized n (DataW.weights_mem_each (j := 0) (t := 25) (d := d0) rfl rfl n hn)
    simpa using hs
  obtain ⟨i1, rfl, rfl, rfl, wi1⟩ := open_int Try.underlying3 (hval 1 3 v1 rfl rfl) h1
  obtain ⟨fuel2, h2⟩ := h2
  obtain ⟨u2, b2, e2, hb2, rb2⟩ := Try.bytesOpen h2
  have q2 : v2 = u2 := by
    obtain ⟨a0, len, cap, rfl⟩ := okWide_slice Try.underlying35 (hval 2 35 v2 rfl rfl)
    simpa [Value.cells] using e2
  subst q2
  refine (diskWriteSpec_ok W v0 x0 i1 v2 b2 hx0 hb2 hr0).mono fun e W' ⟨he, hw⟩ => ?_
  subst he
  exact ⟨_, rfl, post_true (tb := 4) Try.laidOut Try.underlying4 (by rw [Try.params4]; exact List.forall_mem_cons.2 ⟨Try.okT25, List.forall_mem_cons.2 ⟨Try.okT3, List.forall_mem_cons.2 ⟨Try.okT35, fun _ h => by cases h⟩⟩⟩) hW' rfl rfl rfl hw⟩

theorem diskWriteSpec_holds : Rows.DiskWriteSpecSaid :=
  OpenClaim.holds_of_wide 4 Try.f4 rfl rfl rfl rfl rfl rfl rfl ⟨rfl, rfl, rfl, rfl, rfl⟩ rfl rfl rfl rfl rfl (by kernel_rfl) Try.func4 (by kernel_rfl)
    (of_decide_eq_true (by kernel_rfl)) (by unfold Func.isWrapper; first | (rw [if_pos (by decide +kernel)]; kernel_rfl) | (rw [if_neg (by decide +kernel)]; exact ⟨rfl, rfl⟩))
    (fun os started H enc _ => diskWriteSpec_lifted os started H enc)
end Go.Proofs.Ytpciankfpagnhaa
