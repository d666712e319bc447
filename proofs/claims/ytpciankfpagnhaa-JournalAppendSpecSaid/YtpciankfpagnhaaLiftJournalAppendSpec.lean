/- For every journal and record the law JournalAppendSpec returns true, and its arguments read as before. No condition. -/
import Derived.Test.YtpciankfpagnhaaR2
import Derived.Test.YtpciankfpagnhaaR4
import Derived.Test.YtpciankfpagnhaaJ30
namespace Go.Proofs.Ytpciankfpagnhaa
open Go.ChangeShapes Go.WideShapes Go.ChangeAt Go.RowKit Go.Deep

set_option maxRecDepth 100000 in
theorem journalAppendSpec_lifted (os : Os) (started : os.Started) (H : Type) (enc : TypeId × Value → H) :
    ReturnsInHanded {} Try.checked os 11 .any (Rows.journalAppendSpecSpec.pre6 enc Try.prog Try.f11 Rows.journalAppendSpecRow.domain false) (Rows.journalAppendSpecSpec.post enc Try.prog Try.f11 false true false false) := by
  refine returnsInHanded_of_change_sized (C := Try.checked) Try.own started (by kernel_rfl) Try.func11
    (ChangeSpec.witness6 (enc := enc) (C := Try.checked) false ⟨#[], #[.agg #[.slice none 0 0, .int .i64 0, .int .i64 0], .slice none 0 0], []⟩ 8 (by kernel_rfl) (by kernel_rfl) (by kernel_rfl) (by kernel_rfl)) ?_
  intro W base args ds gs before hval0 hW _ hsized _
  have hval : ∀ (j : Nat) t v, Try.f11.params[j]? = some t → args[j]? = some v → Value.okWide Try.prog W .any base t v := hval0
  have hW' := hW
  obtain ⟨p, q, hA0, hV, rfl, hfz, hnd⟩ := hW
  have hA : DataW.TrodAll enc Try.prog W 0 (fun _ => true) true Try.f11.params.toList args.toList ds p := hA0
  rw [Try.params11] at hA hval
  obtain ⟨v0, v1, d0, d1, p0, p1, rfl, rfl, rfl, h0, h1⟩ := trodAll_two hA
  obtain ⟨rfl, rfl⟩ := trodVars_none hV
  obtain ⟨x0, hx0, rx0⟩ := Try.journalOpen (hval 0 55 v0 rfl rfl) h0
  have hr0 : ReachR x0.records := rx0.reach fun n hn => by
    have hs := List.all_eq_true.1 hsized n (DataW.weights_mem_each (j := 0) (t := 55) (d := d0) rfl rfl n hn)
    simpa using hs
  obtain ⟨fuel1, h1⟩ := h1
  obtain ⟨u1, b1, e1, hb1, rb1⟩ := Try.bytesOpen h1
  have q1 : v1 = u1 := by
    obtain ⟨a0, len, cap, rfl⟩ := okWide_slice Try.underlying35 (hval 1 35 v1 rfl rfl)
    simpa [Value.cells] using e1
  subst q1
  refine (journalAppendSpec_ok W v0 x0 v1 b1 hx0 hb1 hr0).mono fun e W' ⟨he, hw⟩ => ?_
  subst he
  exact ⟨_, rfl, post_true (tb := 4) Try.laidOut Try.underlying4 (by rw [Try.params11]; exact List.forall_mem_cons.2 ⟨Try.okT55, List.forall_mem_cons.2 ⟨Try.okT35, fun _ h => by cases h⟩⟩) hW' rfl rfl rfl hw⟩

theorem journalAppendSpec_holds : Rows.JournalAppendSpecSaid :=
  OpenClaim.holds_of_wide 11 Try.f11 rfl rfl rfl rfl rfl rfl rfl ⟨rfl, rfl, rfl, rfl, rfl⟩ rfl rfl rfl rfl rfl (by kernel_rfl) Try.func11 (by kernel_rfl)
    (of_decide_eq_true (by kernel_rfl)) (by unfold Func.isWrapper; first | (rw [if_pos (by decide +kernel)]; kernel_rfl) | (rw [if_neg (by decide +kernel)]; exact ⟨rfl, rfl⟩))
    (fun os started H enc _ => journalAppendSpec_lifted os started H enc)
end Go.Proofs.Ytpciankfpagnhaa
