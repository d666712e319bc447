/- For every journal and disk the law JournalSyncSpec returns true, and its arguments read as before. No condition. -/
import Derived.Test.YtpciankfpagnhaaR2
import Derived.Test.YtpciankfpagnhaaR4
import Derived.Test.YtpciankfpagnhaaJ43
namespace Go.Proofs.Ytpciankfpagnhaa
open Go.ChangeShapes Go.WideShapes Go.ChangeAt Go.RowKit Go.Deep

set_option maxRecDepth 100000 in
theorem journalSyncSpec_lifted (os : Os) (started : os.Started) (H : Type) (enc : TypeId × Value → H) :
    ReturnsInHanded {} Try.checked os 12 .any (Rows.journalSyncSpecSpec.pre6 enc Try.prog Try.f12 Rows.journalSyncSpecRow.domain false) (Rows.journalSyncSpecSpec.post enc Try.prog Try.f12 false true false false) := by
  refine returnsInHanded_of_change_sized (C := Try.checked) Try.own started (by kernel_rfl) Try.func12
    (ChangeSpec.witness6 (enc := enc) (C := Try.checked) false ⟨#[], #[.agg #[.slice none 0 0, .int .i64 0, .int .i64 0], .agg #[.slice none 0 0, .slice none 0 0, .int .i64 0, .bool false]], []⟩ 8 (by kernel_rfl) (by kernel_rfl) (by kernel_rfl) (by kernel_rfl)) ?_
  intro W base args ds gs before hval0 hW _ hsized _
  have hval : ∀ (j : Nat) t v, Try.f12.params[j]? = some t → args[j]? = some v → Value.okWide Try.prog W .any base t v := hval0
  have hW' := hW
  obtain ⟨p, q, hA0, hV, rfl, hfz, hnd⟩ := hW
  have hA : DataW.TrodAll enc Try.prog W 0 (fun _ => true) true Try.f12.params.toList args.toList ds p := hA0
  rw [Try.params12] at hA hval
  obtain ⟨v0, v1, d0, d1, p0, p1, rfl, rfl, rfl, h0, h1⟩ := trodAll_two hA
  obtain ⟨rfl, rfl⟩ := trodVars_none hV
  obtain ⟨x0, hx0, rx0⟩ := Try.journalOpen (hval 0 55 v0 rfl rfl) h0
  have hr0 : ReachR x0.records := rx0.reach fun n hn => by
    have hs := List.all_eq_true.1 hsized n (DataW.weights_mem_each (j := 0) (t := 55) (d := d0) rfl rfl n hn)
    simpa using hs
  obtain ⟨x1, hx1, rx1⟩ := Try.diskOpen (hval 1 25 v1 rfl rfl) h1
  have hr1 : ReachD x1 := rx1.reach fun n hn => by
    have hs := List.all_eq_true.1 hsized n (DataW.weights_mem_each (j := 1) (t := 25) (d := d1) rfl rfl n hn)
    simpa using hs
  refine (journalSyncSpec_ok W v0 x0 v1 x1 hx0 hx1 hr0 hr1).mono fun e W' ⟨he, hw⟩ => ?_
  subst he
  exact ⟨_, rfl, post_true (tb := 4) Try.laidOut Try.underlying4 (by rw [Try.params12]; exact List.forall_mem_cons.2 ⟨Try.okT55, List.forall_mem_cons.2 ⟨Try.okT25, fun _ h => by cases h⟩⟩) hW' rfl rfl rfl hw⟩

theorem journalSyncSpec_holds : Rows.JournalSyncSpecSaid :=
  OpenClaim.holds_of_wide 12 Try.f12 rfl rfl rfl rfl rfl rfl rfl ⟨rfl, rfl, rfl, rfl, rfl⟩ rfl rfl rfl rfl rfl (by kernel_rfl) Try.func12 (by kernel_rfl)
    (of_decide_eq_true (by kernel_rfl)) (by unfold Func.isWrapper; first | (rw [if_pos (by decide +kernel)]; kernel_rfl) | (rw [if_neg (by decide +kernel)]; exact ⟨rfl, rfl⟩))
    (fun os started H enc _ => journalSyncSpec_lifted os started H enc)
end Go.Proofs.Ytpciankfpagnhaa
