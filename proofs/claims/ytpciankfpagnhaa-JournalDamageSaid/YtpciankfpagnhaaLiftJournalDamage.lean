/- For all records and numbers the law JournalDamage returns true, and its arguments read as before. No condition. -/
import Derived.Test.YtpciankfpagnhaaR3
import Derived.Test.YtpciankfpagnhaaR4
import Derived.Test.YtpciankfpagnhaaJ34
namespace Go.Proofs.Ytpciankfpagnhaa
open Go.ChangeShapes Go.WideShapes Go.ChangeAt Go.RowKit Go.Deep

set_option maxRecDepth 100000 in
theorem journalDamage_lifted (os : Os) (started : os.Started) (H : Type) (enc : TypeId × Value → H) :
    ReturnsInHanded {} Try.checked os 14 .any (Rows.journalDamageSpec.pre6 enc Try.prog Try.f14 Rows.journalDamageRow.domain false) (Rows.journalDamageSpec.post enc Try.prog Try.f14 false true false false) := by
  refine returnsInHanded_of_change_sized (C := Try.checked) Try.own started (by kernel_rfl) Try.func14
    (ChangeSpec.witness6 (enc := enc) (C := Try.checked) false ⟨#[], #[.slice none 0 0, .int .i64 0, .int .i64 0, .int .u8 0], []⟩ 8 (by kernel_rfl) (by kernel_rfl) (by kernel_rfl) (by kernel_rfl)) ?_
  intro W base args ds gs before hval0 hW _ hsized _
  have hval : ∀ (j : Nat) t v, Try.f14.params[j]? = some t → args[j]? = some v → Value.okWide Try.prog W .any base t v := hval0
  have hW' := hW
  obtain ⟨p, q, hA0, hV, rfl, hfz, hnd⟩ := hW
  have hA : DataW.TrodAll enc Try.prog W 0 (fun _ => true) true Try.f14.params.toList args.toList ds p := hA0
  rw [Try.params14] at hA hval
  obtain ⟨v0, v1, v2, v3, d0, d1, d2, d3, p0, p1, p2, p3, rfl, rfl, rfl, h0, h1, h2, h3⟩ := trodAll_four hA
  obtain ⟨rfl, rfl⟩ := trodVars_none hV
  obtain ⟨fuel0, h0⟩ := h0
  obtain ⟨u0, b0, e0, hb0, rb0⟩ := Try.rowsOpen h0
  have q0 : v0 = u0 := by
    obtain ⟨a0, len, cap, rfl⟩ := okWide_slice Try.underlying22 (hval 0 22 v0 rfl rfl)
    simpa [Value.cells] using e0
  subst q0
  have hr0 : ReachR b0 := RRows.reach rb0 fun n hn => by
    have hs := List.all_eq_true.1 hsized n (DataW.weights_mem_each (j := 0) (t := 22) (d := d0) rfl rfl n hn)
    simpa using hs
  obtain ⟨i1, rfl, rfl, rfl, wi1⟩ := open_int Try.underlying3 (hval 1 3 v1 rfl rfl) h1
  obtain ⟨i2, rfl, rfl, rfl, wi2⟩ := open_int Try.underlying3 (hval 2 3 v2 rfl rfl) h2
  obtain ⟨i3, rfl⟩ := Try.u8Open (hval 3 5 v3 rfl rfl) h3
  refine (journalDamage_ok W v0 b0 i1 i2 i3 hb0 hr0).mono fun e W' ⟨he, hw⟩ => ?_
  subst he
  exact ⟨_, rfl, post_true (tb := 4) Try.laidOut Try.underlying4 (by rw [Try.params14]; exact List.forall_mem_cons.2 ⟨Try.okT22, List.forall_mem_cons.2 ⟨Try.okT3, List.forall_mem_cons.2 ⟨Try.okT3, List.forall_mem_cons.2 ⟨Try.okT5, fun _ h => by cases h⟩⟩⟩⟩) hW' rfl rfl rfl hw⟩

theorem journalDamage_holds : Rows.JournalDamageSaid :=
  OpenClaim.holds_of_wide 14 Try.f14 rfl rfl rfl rfl rfl rfl rfl ⟨rfl, rfl, rfl, rfl, rfl⟩ rfl rfl rfl rfl rfl (by kernel_rfl) Try.func14 (by kernel_rfl)
    (of_decide_eq_true (by kernel_rfl)) (by unfold Func.isWrapper; first | (rw [if_pos (by decide +kernel)]; kernel_rfl) | (rw [if_neg (by decide +kernel)]; exact ⟨rfl, rfl⟩))
    (fun os started H enc _ => journalDamage_lifted os started H enc)
end Go.Proofs.Ytpciankfpagnhaa
