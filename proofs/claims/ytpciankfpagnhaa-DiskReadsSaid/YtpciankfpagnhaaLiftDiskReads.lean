/- For every disk, two numbers and two byte slices the law DiskReads returns true, and its arguments read as before. No condition. -/
import Derived.Test.YtpciankfpagnhaaR2
import Derived.Test.YtpciankfpagnhaaD28
namespace Go.Proofs.Ytpciankfpagnhaa
open Go.ChangeShapes Go.WideShapes Go.ChangeAt Go.RowKit Go.Deep

theorem trodAll_peel {H : Type} {enc : TypeId × Value → H} {P : Program} {w : World} {base : Nat} {spare : Nat → Bool} {held : Bool} {t : TypeId} {ts : List TypeId} : ∀ {vs : List Value} {ds : List (DataW H)} {ps : List MemPlace}, DataW.TrodAll enc P w base spare held (t :: ts) vs ds ps →
    ∃ v vs' d ds' p q, vs = v :: vs' ∧ ds = d :: ds' ∧ ps = p ++ q ∧ DataW.Trod enc P w base spare held t v d p ∧ DataW.TrodAll enc P w base spare held ts vs' ds' q
  | v :: vs', d :: ds', _, ⟨p, q, h1, h2, e⟩ => ⟨v, vs', d, ds', p, q, rfl, rfl, e, h1, h2⟩
  | [], [], _, h => h.elim
  | [], _ :: _, _, h => h.elim
  | _ :: _, [], _, h => h.elim
theorem trodAll_nil {H : Type} {enc : TypeId × Value → H} {P : Program} {w : World} {base : Nat} {spare : Nat → Bool} {held : Bool} : ∀ {vs : List Value} {ds : List (DataW H)} {ps : List MemPlace}, DataW.TrodAll enc P w base spare held [] vs ds ps → vs = [] ∧ ds = [] ∧ ps = []
  | [], [], _, h => ⟨rfl, rfl, h⟩
  | [], _ :: _, _, h => h.elim
  | _ :: _, [], _, h => h.elim
  | _ :: _, _ :: _, _, h => h.elim
theorem trodAll_five {H : Type} {enc : TypeId × Value → H} {P : Program} {w : World} {base : Nat} {spare : Nat → Bool} {held : Bool} {t0 t1 t2 t3 t4 : TypeId} {args : Array Value} {ds : List (DataW H)} {ps : List MemPlace} (h : DataW.TrodAll enc P w base spare held [t0, t1, t2, t3, t4] args.toList ds ps) :
    ∃ v0 v1 v2 v3 v4 d0 d1 d2 d3 d4 p0 p1 p2 p3 p4, args = #[v0, v1, v2, v3, v4] ∧ ds = [d0, d1, d2, d3, d4] ∧ ps = p0 ++ (p1 ++ (p2 ++ (p3 ++ p4))) ∧ DataW.Trod enc P w base spare held t0 v0 d0 p0 ∧ DataW.Trod enc P w base spare held t1 v1 d1 p1 ∧ DataW.Trod enc P w base spare held t2 v2 d2 p2 ∧ DataW.Trod enc P w base spare held t3 v3 d3 p3 ∧ DataW.Trod enc P w base spare held t4 v4 d4 p4 := by
  obtain ⟨l⟩ := args
  obtain ⟨v0, l0, d0, m0, p0, q0, e0, rfl, rfl, h0, h⟩ := trodAll_peel h
  obtain ⟨v1, l1, d1, m1, p1, q1, rfl, rfl, rfl, h1, h⟩ := trodAll_peel h
  obtain ⟨v2, l2, d2, m2, p2, q2, rfl, rfl, rfl, h2, h⟩ := trodAll_peel h
  obtain ⟨v3, l3, d3, m3, p3, q3, rfl, rfl, rfl, h3, h⟩ := trodAll_peel h
  obtain ⟨v4, l4, d4, m4, p4, q4, rfl, rfl, rfl, h4, h⟩ := trodAll_peel h
  obtain ⟨rfl, rfl, rfl⟩ := trodAll_nil h
  have e0 : l = [v0, v1, v2, v3, v4] := e0
  subst e0
  exact ⟨v0, v1, v2, v3, v4, d0, d1, d2, d3, d4, p0, p1, p2, p3, p4, rfl, rfl, by rw [List.append_nil], h0, h1, h2, h3, h4⟩

set_option maxRecDepth 100000 in
theorem diskReads_lifted (os : Os) (started : os.Started) (H : Type) (enc : TypeId × Value → H) :
    ReturnsInHanded {} Try.checked os 7 .any (Rows.diskReadsSpec.pre6 enc Try.prog Try.f7 Rows.diskReadsRow.domain false) (Rows.diskReadsSpec.post enc Try.prog Try.f7 false true false false) := by
  refine returnsInHanded_of_change_sized (C := Try.checked) Try.own started (by kernel_rfl) Try.func7
    (ChangeSpec.witness6 (enc := enc) (C := Try.checked) false ⟨#[], #[.agg #[.slice none 0 0, .slice none 0 0, .int .i64 0, .bool false], .int .i64 0, .int .i64 0, .slice none 0 0, .slice none 0 0], []⟩ 8 (by kernel_rfl) (by kernel_rfl) (by kernel_rfl) (by kernel_rfl)) ?_
  intro W base args ds gs before hval0 hW _ hsized _
  have hval : ∀ (j : Nat) t v, Try.f7.params[j]? = some t → args[j]? = some v → Value.okWide Try.prog W .any base t v := hval0
  have hW' := hW
  obtain ⟨p, q, hA0, hV, rfl, hfz, hnd⟩ := hW
  have hA : DataW.TrodAll enc Try.prog W 0 (fun _ => true) true Try.f7.params.toList args.toList ds p := hA0
  rw [Try.params7] at hA hval
  obtain ⟨v0, v1, v2, v3, v4, d0, d1, d2, d3, d4, p0, p1, p2, p3, p4, rfl, rfl, rfl, h0, h1, h2, h3, h4⟩ := trodAll_five hA
  obtain ⟨rfl, rfl⟩ := trodVars_none hV
  obtain ⟨x0, hx0, rx0⟩ := Try.diskOpen (hval 0 25 v0 rfl rfl) h0
  have hr0 : ReachD x0 := rx0.reach fun n hn => by
    have hs := List.all_eq_true.1 hsized n (DataW.weights_mem_each (j := 0) (t := 25) (d := d0) rfl rfl n hn)
    simpa using hs
  obtain ⟨i1, rfl, rfl, rfl, wi1⟩ := open_int Try.underlying3 (hval 1 3 v1 rfl rfl) h1
  obtain ⟨i2, rfl, rfl, rfl, wi2⟩ := open_int Try.underlying3 (hval 2 3 v2 rfl rfl) h2
  obtain ⟨fuel3, h3⟩ := h3
  obtain ⟨u3, b3, e3, hb3, rb3⟩ := Try.bytesOpen h3
  have q3 : v3 = u3 := by
    obtain ⟨a0, len, cap, rfl⟩ := okWide_slice Try.underlying35 (hval 3 35 v3 rfl rfl)
    simpa [Value.cells] using e3
  subst q3
  obtain ⟨fuel4, h4⟩ := h4
  obtain ⟨u4, b4, e4, hb4, rb4⟩ := Try.bytesOpen h4
  have q4 : v4 = u4 := by
    obtain ⟨a0, len, cap, rfl⟩ := okWide_slice Try.underlying35 (hval 4 35 v4 rfl rfl)
    simpa [Value.cells] using e4
  subst q4
  refine (diskReads_ok W v0 x0 i1 i2 v3 b3 v4 b4 hx0 hb3 hb4 hr0).mono fun e W' ⟨he, hw⟩ => ?_
  subst he
  exact ⟨_, rfl, post_true (tb := 4) Try.laidOut Try.underlying4 (by rw [Try.params7]; exact List.forall_mem_cons.2 ⟨Try.okT25, List.forall_mem_cons.2 ⟨Try.okT3, List.forall_mem_cons.2 ⟨Try.okT3, List.forall_mem_cons.2 ⟨Try.okT35, List.forall_mem_cons.2 ⟨Try.okT35, fun _ h => by cases h⟩⟩⟩⟩⟩) hW' rfl rfl rfl hw⟩

theorem diskReads_holds : Rows.DiskReadsSaid :=
  OpenClaim.holds_of_wide 7 Try.f7 rfl rfl rfl rfl rfl rfl rfl ⟨rfl, rfl, rfl, rfl, rfl⟩ rfl rfl rfl rfl rfl (by kernel_rfl) Try.func7 (by kernel_rfl)
    (of_decide_eq_true (by kernel_rfl)) (by unfold Func.isWrapper; first | (rw [if_pos (by decide +kernel)]; kernel_rfl) | (rw [if_neg (by decide +kernel)]; exact ⟨rfl, rfl⟩))
    (fun os started H enc _ => diskReads_lifted os started H enc)
end Go.Proofs.Ytpciankfpagnhaa
