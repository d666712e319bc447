/- For every number and script the law JournalSurvives returns true, and its arguments read as before. No condition. -/
import Derived.Test.YtpciankfpagnhaaR3
import Derived.Test.YtpciankfpagnhaaR5
import Derived.Test.YtpciankfpagnhaaJ36
namespace Go.Proofs.Ytpciankfpagnhaa
open Go.ChangeShapes Go.WideShapes Go.ChangeAt Go.RowKit Go.Deep

set_option maxRecDepth 100000 in
theorem journalSurvives_lifted (os : Os) (started : os.Started) (H : Type) (enc : TypeId × Value → H) :
    ReturnsInHanded {} Try.checked os 16 .any (Rows.journalSurvivesSpec.pre6 enc Try.prog Try.f16 Rows.journalSurvivesRow.domain false) (Rows.journalSurvivesSpec.post enc Try.prog Try.f16 false true false false) := by
  refine returnsInHanded_of_change_sized (C := Try.checked) Try.own started (by kernel_rfl) Try.func16
    (ChangeSpec.witness6 (enc := enc) (C := Try.checked) false ⟨#[], #[.int .u8 0, .slice none 0 0], []⟩ 8 (by kernel_rfl) (by kernel_rfl) (by kernel_rfl) (by kernel_rfl)) ?_
  intro W base args ds gs before hval0 hW _ hsized _
  have hval : ∀ (j : Nat) t v, Try.f16.params[j]? = some t → args[j]? = some v → Value.okWide Try.prog W .any base t v := hval0
  have hW' := hW
  obtain ⟨p, q, hA0, hV, rfl, hfz, hnd⟩ := hW
  have hA : DataW.TrodAll enc Try.prog W 0 (fun _ => true) true Try.f16.params.toList args.toList ds p := hA0
  rw [Try.params16] at hA hval
  obtain ⟨v0, v1, d0, d1, p0, p1, rfl, rfl, rfl, h0, h1⟩ := trodAll_two hA
  obtain ⟨rfl, rfl⟩ := trodVars_none hV
  obtain ⟨i0, rfl⟩ := Try.u8Open (hval 0 5 v0 rfl rfl) h0
  obtain ⟨fuel1, h1⟩ := h1
  obtain ⟨u1, b1, e1, hb1, rb1⟩ := Try.crashesOpen h1
  have q1 : v1 = u1 := by
    obtain ⟨a0, len, cap, rfl⟩ := okWide_slice Try.underlying71 (hval 1 71 v1 rfl rfl)
    simpa [Value.cells] using e1
  subst q1
  have hr1 : ReachCrs b1 := RCrs.reach rb1 fun n hn => by
    have hs := List.all_eq_true.1 hsized n (DataW.weights_mem_each (j := 1) (t := 71) (d := d1) rfl rfl n hn)
    simpa using hs
  refine (journalSurvives_ok W i0 v1 b1 hb1 hr1).mono fun e W' ⟨he, hw⟩ => ?_
  subst he
  exact ⟨_, rfl, post_true (tb := 4) Try.laidOut Try.underlying4 (by rw [Try.params16]; exact List.forall_mem_cons.2 ⟨Try.okT5, List.forall_mem_cons.2 ⟨Try.okT71, fun _ h => by cases h⟩⟩) hW' rfl rfl rfl hw⟩

theorem journalSurvives_holds : Rows.JournalSurvivesSaid :=
  OpenClaim.holds_of_wide 16 Try.f16 rfl rfl rfl rfl rfl rfl rfl ⟨rfl, rfl, rfl, rfl, rfl⟩ rfl rfl rfl rfl rfl (by kernel_rfl) Try.func16 (by kernel_rfl)
    (of_decide_eq_true (by kernel_rfl)) (by unfold Func.isWrapper; first | (rw [if_pos (by decide +kernel)]; kernel_rfl) | (rw [if_neg (by decide +kernel)]; exact ⟨rfl, rfl⟩))
    (fun os started H enc _ => journalSurvives_lifted os started H enc)
end Go.Proofs.Ytpciankfpagnhaa
