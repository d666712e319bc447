/- How a journal and records that came in read. -/
import Derived.Test.YtpciankfpagnhaaR2
import Derived.Test.YtpciankfpagnhaaJ13
namespace Go.Proofs.Ytpciankfpagnhaa
open Go.ChangeShapes Go.WideShapes Go.ChangeAt Go.RowKit Go.Deep

theorem Try.okT55 : Try.prog.readableRec 55 = true ∧ 55 < Try.prog.types.size := ⟨by kernel_rfl, of_decide_eq_true (by kernel_rfl)⟩
section
variable {H : Type} {enc : TypeId × Value → H} {w : World}
def RJn (x : Jn) (d : DataW H) : Prop := ∃ d0 d1 d2, d = .agg [d0, d1, d2] ∧ RSl (RSl RByte) x.records d0
set_option maxRecDepth 100000 in
theorem Try.journalOpen {r : Reach} {b0 : Nat} {v : Value} {d : DataW H} {p : List MemPlace} (hv : Value.okWide Try.prog w r b0 55 v) (h : DataW.Trod enc Try.prog w 0 (fun _ => true) true 55 v d p) :
    ∃ x : Jn, Journal (fun _ => False) w v x ∧ RJn x d := by
  obtain ⟨v0, v1, v2, y0, y1, y2, n, rfl, rfl, rfl, h0, h1, h2⟩ := Joins.open_agg3 Try.underlying55 (by kernel_rfl) (by kernel_rfl) hv h
  obtain ⟨u0, ss, e, hs, rs⟩ := Try.rowsOpen h0
  cases e
  cases n with
  | zero => simp [DataW.trod] at h1
  | succ m =>
    unfold DataW.trod at h1 h2
    rw [Try.underlying3] at h1 h2
    cases v1 <;> simp at h1
    rename_i k i
    obtain ⟨⟨rfl, _⟩, _⟩ := h1
    cases v2 <;> simp at h2
    rename_i k2 i2
    obtain ⟨⟨rfl, _⟩, _⟩ := h2
    exact ⟨⟨ss, i, i2⟩, ⟨_, rfl, hs⟩, _, _, _, rfl, rs⟩
/-- What is known of records that came in. -/
def ReachR (l : List (List UInt8)) : Prop := ReachB l ∧ l.length * 24 ≤ 140737488351232
theorem RRows.reach {l : List (List UInt8)} {d : DataW H} (h : RSl (RSl RByte) l d) (hw : ∀ n ∈ d.weights Try.prog 22, n ≤ reachBytes) : ReachR l := by
  obtain ⟨w0, w1⟩ := h.weights Try.underlying22 (B := reachBytes) hw
  refine ⟨fun b hb => ?_, ?_⟩
  · obtain ⟨y, hy, hn⟩ := w1 b hb
    have := (hy.weights Try.underlying35 hn).1
    rw [show Try.prog.bytesOf 5 = 1 from by kernel_rfl] at this
    unfold reachBytes at this; omega
  · rw [show Try.prog.bytesOf 35 = 24 from by kernel_rfl] at w0
    unfold reachBytes at w0; omega
set_option maxRecDepth 100000 in
theorem RJn.reach {x : Jn} {d : DataW H} (h : RJn x d) (hw : ∀ n ∈ d.weights Try.prog 55, n ≤ reachBytes) : ReachR x.records := by
  obtain ⟨d0, d1, d2, rfl, h1⟩ := h
  have e : (DataW.agg [d0, d1, d2]).weights Try.prog 55 = d0.weights Try.prog 22 ++ (d1.weights Try.prog 3 ++ (d2.weights Try.prog 3 ++ [])) := by
    simp only [DataW.weights, Try.underlying55]; rfl
  rw [e] at hw
  simp only [List.mem_append] at hw
  exact RRows.reach h1 (fun n hn => hw n (.inl hn))

/-- The bulk of what came in. -/
theorem bulk_one (d : DataW H) : 1 ≤ Rows.uptoBulk d := by
  cases d with
  | lit l => cases l <;> simp [Rows.uptoBulk]
  | nil => simp [Rows.uptoBulk]
  | ptr d => simp [Rows.uptoBulk]
  | slice elems spare => simp [Rows.uptoBulk]
  | agg parts => simp [Rows.uptoBulk]
  | iface t d => simp [Rows.uptoBulk]
  | map entries => simp [Rows.uptoBulk]
  | held h => simp [Rows.uptoBulk]
theorem bulk_list {α : Type} {R : α → DataW H → Prop} {f : α → Nat} (hR : ∀ x d, R x d → f x ≤ Rows.uptoBulk d) : ∀ (xs : List α) (ds : List (DataW H)), ds.length = xs.length →
    (∀ (i : Nat) x y, xs[i]? = some x → ds[i]? = some y → R x y) → (xs.map f).sum ≤ Rows.uptoBulkAll ds
  | [], [], _, _ => by simp [Rows.uptoBulkAll]
  | [], _ :: _, h, _ => by simp at h
  | _ :: _, [], h, _ => by simp at h
  | x :: xs, d :: ds, h, hr => by
    have h1 := hR x d (hr 0 x d rfl rfl)
    have h2 := bulk_list hR xs ds (by simpa using h) (fun i a b ha hb => hr (i + 1) a b (by simpa using ha) (by simpa using hb))
    simp only [List.map_cons, List.sum_cons, Rows.uptoBulkAll]; omega
theorem RSl.bulk {α : Type} {R : α → DataW H → Prop} {f : α → Nat} (hR : ∀ x d, R x d → f x ≤ Rows.uptoBulk d) {xs : List α} {d : DataW H} (h : RSl R xs d) : (xs.map f).sum + 1 ≤ Rows.uptoBulk d := by
  rcases h with ⟨rfl, rfl⟩ | ⟨ds, sp, rfl, hl, hr⟩
  · simp [Rows.uptoBulk]
  · have := bulk_list hR xs ds hl hr
    simp only [Rows.uptoBulk]; omega
theorem bulk_bytes {l : List UInt8} {d : DataW H} (h : RSl RByte l d) : l.length + 1 ≤ Rows.uptoBulk d := by
  have := h.bulk (f := fun _ => 1) (fun x d _ => bulk_one d)
  have e : (l.map fun _ => 1).sum = l.length := by
    clear h this
    induction l with
    | nil => rfl
    | cons x l ih => simp only [List.map_cons, List.sum_cons, ih, List.length_cons]; omega
  omega
theorem bulk_rows {l : List (List UInt8)} {d : DataW H} (h : RSl (RSl RByte) l d) : (l.map fun b => b.length + 1).sum + 1 ≤ Rows.uptoBulk d := h.bulk (f := fun b => b.length + 1) fun _ _ => bulk_bytes
/-- What is known of records of small bulk. -/
def SmallR (l : List (List UInt8)) : Prop := (l.map fun b => b.length + 1).sum ≤ 1048576
theorem RJn.small {x : Jn} {d : DataW H} (h : RJn x d) (hb : Rows.uptoBulk d ≤ 1048576) : SmallR x.records := by
  obtain ⟨d0, d1, d2, rfl, h1⟩ := h
  have := bulk_rows h1
  simp only [Rows.uptoBulk, Rows.uptoBulkAll] at hb
  unfold SmallR; omega
theorem SmallR.reach {l : List (List UInt8)} (h : SmallR l) : ReachB l := fun b hb => by
  have : b.length + 1 ≤ (l.map fun b => b.length + 1).sum := by
    clear h
    induction l with
    | nil => cases hb
    | cons x l ih =>
      simp only [List.map_cons, List.sum_cons]
      rcases List.mem_cons.1 hb with rfl | hb
      · omega
      · have := ih hb; omega
  unfold SmallR at h; omega
theorem SmallR.used {l : List (List UInt8)} (h : SmallR l) : usedN l ≤ 1048576 := by
  refine Nat.le_trans ?_ h
  clear h
  induction l with
  | nil => simp [usedN]
  | cons x l ih => rw [usedN_cons]; simp only [List.map_cons, List.sum_cons]; unfold secN; omega
theorem SmallR.len {l : List (List UInt8)} (h : SmallR l) : l.length ≤ 1048576 := Nat.le_trans (usedN_len l) h.used
end
end Go.Proofs.Ytpciankfpagnhaa
