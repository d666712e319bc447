/- Regions that hand a journal and a disk to two new boxes, in whatever order: the invariant. -/
import Derived.Test.YtpciankfpagnhaaM13
import Derived.Test.YtpciankfpagnhaaM14
namespace Go.Proofs.Ytpciankfpagnhaa
open Go.RowKit

/-- The boxes that are made already, by the operations i and j. -/
def SL (L : Nat → Bool) (v : Nat → Value) (i j k : Nat) : Prop := (L i = true ∧ v i = .pointer (some ⟨k, 0, none⟩)) ∨ (L j = true ∧ v j = .pointer (some ⟨k, 0, none⟩))
/-- What is known of an operation's value; kept while no block of S is written. -/
structure Cmp where
  i : Nat
  R : (Nat → Prop) → World → Value → Prop
structure Cmp.ok (c : Cmp) : Prop where
  kept : ∀ S w w' u, Mem S w w' → c.R S w u → c.R S w' u
  more : ∀ S S' w u, (∀ k, S' k → S k ∨ w.heap.size ≤ k) → c.R S w u → c.R S' w u
def cmpC (i : Nat) (u : Value) : Cmp := ⟨i, fun _ _ x => x = u⟩
def cmpJ (i : Nat) (j : Jn) : Cmp := ⟨i, fun S w u => Journal S w u j⟩
def cmpD (i : Nat) (d : Dk) : Cmp := ⟨i, fun S w u => Disk S w u d⟩
def cmpT (i : Nat) (j : Jn) (d : Dk) : Cmp := ⟨i, fun S w u => ∃ v1 v2, u = .tuple #[v1, v2, .int .i64 0] ∧ Journal S w v1 j ∧ Disk S w v2 d⟩
theorem cmpC_ok (i : Nat) (u : Value) : (cmpC i u).ok := ⟨fun _ _ _ _ _ h => h, fun _ _ _ _ _ h => h⟩
theorem cmpJ_ok (i : Nat) (j : Jn) : (cmpJ i j).ok := ⟨fun _ _ _ _ hm h => Journal.keepM h hm, fun _ _ _ _ hm h => Journal.more h hm⟩
theorem cmpD_ok (i : Nat) (d : Dk) : (cmpD i d).ok := ⟨fun _ _ _ _ hm h => Disk.keepM h hm, fun _ _ _ _ hm h => Disk.more h hm⟩
theorem cmpT_ok (i : Nat) (j : Jn) (d : Dk) : (cmpT i j d).ok :=
  ⟨fun _ _ _ _ hm ⟨v1, v2, e, h1, h2⟩ => ⟨v1, v2, e, h1.keepM hm, h2.keepM hm⟩, fun _ _ _ _ hm ⟨v1, v2, e, h1, h2⟩ => ⟨v1, v2, e, h1.more hm, h2.more hm⟩⟩
def jc (j : Jn) (a : Option Addr) (c : Nat) : List Value := [.slice a j.records.length c, .int .i64 j.many, .int .i64 j.synced]
def dc (d : Dk) (a : Option Addr) (c : Nat) (b : Option Addr) (e : Nat) : List Value := [.slice a d.sectors.length c, .slice b d.pending.length e, .int .i64 d.left, .bool d.stopped]
def z3 : List Value := [.slice none 0 0, .int .i64 0, .int .i64 0]
def z4 : List Value := [.slice none 0 0, .slice none 0 0, .int .i64 0, .bool false]

def ZI (w1 : World) (cs : List Cmp) (T : Jn) (C : Dk) (ib id sb sd : Nat) (L : Nat → Bool) (v : Nat → Value) (w : World) : Prop :=
  Ext w1 w ∧ (∀ c ∈ cs, L c.i = true → c.R (SL L v ib id) w (v c.i)) ∧
  (L ib = true → ∃ g, v ib = .pointer (some ⟨g, 0, none⟩) ∧ w1.heap.size ≤ g ∧ (L sb = false → Box w g z3) ∧ (L sb = true → ∃ a c, Box w g (jc T a c) ∧ Journal (SL L v ib id) w (.agg (jc T a c).toArray) T)) ∧
  (L id = true → ∃ g, v id = .pointer (some ⟨g, 0, none⟩) ∧ w1.heap.size ≤ g ∧ (L sd = false → Box w g z4) ∧ (L sd = true → ∃ a c b e, Box w g (dc C a c b e) ∧ Disk (SL L v ib id) w (.agg (dc C a c b e).toArray) C))

abbrev No' : Nat → Prop := fun _ => False
theorem vput_ne {v : Nat → Value} {i j : Nat} {u : Value} (h : j ≠ i) : vput v i u j = v j := by unfold vput; rw [if_neg h]
theorem vput_self {v : Nat → Value} {i : Nat} {u : Value} : vput v i u i = u := by unfold vput; rw [if_pos rfl]
theorem box_34 {w : World} {g g' : Nat} {cs cs' : List Value} (h : Box w g cs) (h' : Box w g' cs') (hl : cs.length ≠ cs'.length) : g ≠ g' := by
  rintro rfl
  obtain ⟨t, e⟩ := h
  obtain ⟨t', e'⟩ := h'
  rw [e] at e'
  injection e' with e'
  injection e' with e1
  apply hl
  have := congrArg Array.size e1
  simpa using this
section
variable {w1 : World} {cs : List Cmp} {T : Jn} {C : Dk} {ib id sb sd : Nat} {L : Nat → Bool} {v : Nat → Value} {w w2 : World}
/-- A step that only makes new memory. -/
theorem ZI.step (hok : ∀ c ∈ cs, c.ok) (h : ZI w1 cs T C ib id sb sd L v w) (i : Nat) (u : Value) (h1 : ib ≠ i) (h2 : id ≠ i) (h3 : sb ≠ i) (h4 : sd ≠ i) (hx : Ext w w2)
    (hn : ∀ c ∈ cs, c.i = i → c.R (SL L v ib id) w2 u) : ZI w1 cs T C ib id sb sd (fun j => if j = i then true else L j) (vput v i u) w2 := by
  obtain ⟨e1, e2, e3, e4⟩ := h
  have hS : SL (fun j => if j = i then true else L j) (vput v i u) ib id = SL L v ib id := by
    funext k; unfold SL; rw [vput_ne h1, vput_ne h2]; simp only [if_neg h1, if_neg h2]
  unfold ZI
  rw [hS]
  simp only [if_neg h1, if_neg h2, if_neg h3, if_neg h4, vput_ne h1, vput_ne h2]
  refine ⟨e1.trans hx, fun c hc hL => ?_, fun hL => ?_, fun hL => ?_⟩
  · by_cases hi : c.i = i
    · rw [hi, vput_self]; exact hn c hc hi
    · rw [vput_ne hi]; rw [if_neg hi] at hL
      exact (hok c hc).kept _ _ _ _ (hx.mem _) (e2 c hc hL)
  · obtain ⟨g, q1, q2, q3, q4⟩ := e3 hL
    exact ⟨g, q1, q2, fun h => (q3 h).keep hx, fun h => by obtain ⟨a, c, b1, b2⟩ := q4 h; exact ⟨a, c, b1.keep hx, b2.keep hx⟩⟩
  · obtain ⟨g, q1, q2, q3, q4⟩ := e4 hL
    exact ⟨g, q1, q2, fun h => (q3 h).keep hx, fun h => by obtain ⟨a, c, b, e, b1, b2⟩ := q4 h; exact ⟨a, c, b, e, b1.keep hx, b2.keep hx⟩⟩
/-- The journal's box is made. -/
theorem ZI.allocB (hok : ∀ c ∈ cs, c.ok) (h : ZI w1 cs T C ib id sb sd L v w) (h2 : id ≠ ib) (h3 : sb ≠ ib) (h4 : sd ≠ ib) (hsb : L sb = false) (hcs : ∀ c ∈ cs, c.i ≠ ib) {t : TypeId} :
    ZI w1 cs T C ib id sb sd (fun j => if j = ib then true else L j) (vput v ib (.pointer (some ⟨w.heap.size, 0, none⟩))) (w.alloc (.cells z3.toArray t)) := by
  obtain ⟨e1, e2, e3, e4⟩ := h
  have hx := (Ext.refl w).alloc (.cells z3.toArray t)
  have hS : ∀ k, SL (fun j => if j = ib then true else L j) (vput v ib (.pointer (some ⟨w.heap.size, 0, none⟩))) ib id k → SL L v ib id k ∨ w.heap.size ≤ k := fun k hk => by
    rcases hk with ⟨-, hk⟩ | ⟨hk, hk2⟩
    · rw [vput_self] at hk; cases hk; exact .inr (Nat.le_refl _)
    · rw [vput_ne h2] at hk2; simp only [if_neg h2] at hk; exact .inl (.inr ⟨hk, hk2⟩)
  refine ⟨e1.trans hx, fun c hc hL => ?_, fun _ => ?_, fun hL => ?_⟩
  · have hi := hcs c hc
    simp only [if_neg hi] at hL
    rw [vput_ne hi]
    exact (hok c hc).kept _ _ _ _ (hx.mem _) ((hok c hc).more _ _ _ _ hS (e2 c hc hL))
  · rw [vput_self]
    exact ⟨_, rfl, e1.size, fun _ => Box.new w z3 t, fun h => by simp only [if_neg h3] at h; rw [hsb] at h; cases h⟩
  · simp only [if_neg h2, if_neg h4] at hL ⊢
    rw [vput_ne h2]
    obtain ⟨g, q1, q2, q3, q4⟩ := e4 hL
    exact ⟨g, q1, q2, fun h => (q3 h).keep hx, fun h => by obtain ⟨a, c, b, e, b1, b2⟩ := q4 h; exact ⟨a, c, b, e, b1.keep hx, (b2.more hS).keep hx⟩⟩
/-- The disk's box is made. -/
theorem ZI.allocD (hok : ∀ c ∈ cs, c.ok) (h : ZI w1 cs T C ib id sb sd L v w) (h2 : ib ≠ id) (h3 : sb ≠ id) (h4 : sd ≠ id) (hsd : L sd = false) (hcs : ∀ c ∈ cs, c.i ≠ id) {t : TypeId} :
    ZI w1 cs T C ib id sb sd (fun j => if j = id then true else L j) (vput v id (.pointer (some ⟨w.heap.size, 0, none⟩))) (w.alloc (.cells z4.toArray t)) := by
  obtain ⟨e1, e2, e3, e4⟩ := h
  have hx := (Ext.refl w).alloc (.cells z4.toArray t)
  have hS : ∀ k, SL (fun j => if j = id then true else L j) (vput v id (.pointer (some ⟨w.heap.size, 0, none⟩))) ib id k → SL L v ib id k ∨ w.heap.size ≤ k := fun k hk => by
    rcases hk with ⟨hk, hk2⟩ | ⟨-, hk⟩
    · rw [vput_ne h2] at hk2; simp only [if_neg h2] at hk; exact .inl (.inl ⟨hk, hk2⟩)
    · rw [vput_self] at hk; cases hk; exact .inr (Nat.le_refl _)
  refine ⟨e1.trans hx, fun c hc hL => ?_, fun hL => ?_, fun _ => ?_⟩
  · have hi := hcs c hc
    simp only [if_neg hi] at hL
    rw [vput_ne hi]
    exact (hok c hc).kept _ _ _ _ (hx.mem _) ((hok c hc).more _ _ _ _ hS (e2 c hc hL))
  · simp only [if_neg h2, if_neg h3] at hL ⊢
    rw [vput_ne h2]
    obtain ⟨g, q1, q2, q3, q4⟩ := e3 hL
    exact ⟨g, q1, q2, fun h => (q3 h).keep hx, fun h => by obtain ⟨a, c, b1, b2⟩ := q4 h; exact ⟨a, c, b1.keep hx, (b2.more hS).keep hx⟩⟩
  · rw [vput_self]
    exact ⟨_, rfl, e1.size, fun _ => Box.new w z4 t, fun h => by simp only [if_neg h4] at h; rw [hsd] at h; cases h⟩
/-- The journal goes into its box. -/
theorem ZI.storeB (hok : ∀ c ∈ cs, c.ok) (h : ZI w1 cs T C ib id sb sd L v w) (u : Value) (n1 : ib ≠ sb) (n2 : id ≠ sb) (n4 : sd ≠ sb) (hcs : ∀ c ∈ cs, c.i ≠ sb) {g : Nat} {a : Option Addr} {c : Nat} (hg : v ib = .pointer (some ⟨g, 0, none⟩)) (hLb : L ib = true)
    (hg1 : w1.heap.size ≤ g) (ho : Only g w w2) (hb : Box w2 g (jc T a c)) (hz : Box w g z3) (hj : Journal (SL L v ib id) w (.agg (jc T a c).toArray) T) :
    ZI w1 cs T C ib id sb sd (fun j => if j = sb then true else L j) (vput v sb u) w2 := by
  obtain ⟨e1, e2, e3, e4⟩ := h
  have hin : SL L v ib id g := .inl ⟨hLb, hg⟩
  have hm := ho.mem hin
  have hS : SL (fun j => if j = sb then true else L j) (vput v sb u) ib id = SL L v ib id := by
    funext k; unfold SL; rw [vput_ne n1, vput_ne n2]; simp only [if_neg n1, if_neg n2]
  unfold ZI
  rw [hS]
  simp only [if_neg n1, if_neg n2, if_neg n4, vput_ne n1, vput_ne n2, if_true]
  refine ⟨ho.ext e1 hg1, fun c hc hL => ?_, fun _ => ⟨g, hg, hg1, fun h => by simp at h, fun _ => ⟨a, c, hb, hj.keepM hm⟩⟩, fun hL => ?_⟩
  · have hi := hcs c hc
    rw [if_neg hi] at hL
    rw [vput_ne hi]
    exact (hok c hc).kept _ _ _ _ hm (e2 c hc hL)
  · obtain ⟨g', q1, q2, q3, q4⟩ := e4 hL
    refine ⟨g', q1, q2, fun h => ho.box (q3 h) (box_34 hz (q3 h) (by simp [z3, z4])).symm, fun h => ?_⟩
    obtain ⟨a', c', b', e', b1, b2⟩ := q4 h
    exact ⟨a', c', b', e', ho.box b1 (box_34 hz b1 (by simp [z3, dc])).symm, b2.keepM hm⟩
/-- The disk goes into its box. -/
theorem ZI.storeD (hok : ∀ c ∈ cs, c.ok) (h : ZI w1 cs T C ib id sb sd L v w) (u : Value) (n1 : ib ≠ sd) (n2 : id ≠ sd) (n4 : sb ≠ sd) (hcs : ∀ c ∈ cs, c.i ≠ sd) {g : Nat} {a b : Option Addr} {c e : Nat} (hg : v id = .pointer (some ⟨g, 0, none⟩)) (hLb : L id = true)
    (hg1 : w1.heap.size ≤ g) (ho : Only g w w2) (hb : Box w2 g (dc C a c b e)) (hz : Box w g z4) (hj : Disk (SL L v ib id) w (.agg (dc C a c b e).toArray) C) :
    ZI w1 cs T C ib id sb sd (fun j => if j = sd then true else L j) (vput v sd u) w2 := by
  obtain ⟨e1, e2, e3, e4⟩ := h
  have hin : SL L v ib id g := .inr ⟨hLb, hg⟩
  have hm := ho.mem hin
  have hS : SL (fun j => if j = sd then true else L j) (vput v sd u) ib id = SL L v ib id := by
    funext k; unfold SL; rw [vput_ne n1, vput_ne n2]; simp only [if_neg n1, if_neg n2]
  unfold ZI
  rw [hS]
  simp only [if_neg n1, if_neg n2, if_neg n4, vput_ne n1, vput_ne n2, if_true]
  refine ⟨ho.ext e1 hg1, fun c hc hL => ?_, fun hL => ?_, fun _ => ⟨g, hg, hg1, fun h => by simp at h, fun _ => ⟨a, c, b, e, hb, hj.keepM hm⟩⟩⟩
  · have hi := hcs c hc
    rw [if_neg hi] at hL
    rw [vput_ne hi]
    exact (hok c hc).kept _ _ _ _ hm (e2 c hc hL)
  · obtain ⟨g', q1, q2, q3, q4⟩ := e3 hL
    refine ⟨g', q1, q2, fun h => ho.box (q3 h) (box_34 (q3 h) hz (by simp [z3, z4])), fun h => ?_⟩
    obtain ⟨a', c', b1, b2⟩ := q4 h
    exact ⟨a', c', ho.box b1 (box_34 b1 hz (by simp [z4, jc])), b2.keepM hm⟩
/-- What the boxes that are made exclude lies in the world. -/
theorem ZI.lt (h : ZI w1 cs T C ib id sb sd L v w) : ∀ k, SL L v ib id k → k < w.heap.size := fun k hk => by
  obtain ⟨e1, e2, e3, e4⟩ := h
  rcases hk with ⟨hL, hk⟩ | ⟨hL, hk⟩
  · obtain ⟨g, q1, q2, q3, q4⟩ := e3 hL
    rw [q1] at hk; cases hk
    cases hs : L sb
    · exact (q3 hs).lt
    · obtain ⟨a, c, b1, -⟩ := q4 hs; exact b1.lt
  · obtain ⟨g, q1, q2, q3, q4⟩ := e4 hL
    rw [q1] at hk; cases hk
    cases hs : L sd
    · exact (q3 hs).lt
    · obtain ⟨a, c, b, e, b1, -⟩ := q4 hs; exact b1.lt
/-- What was there before reads no new box. -/
theorem ZI.old (h : ZI w1 cs T C ib id sb sd L v w) : ∀ k, SL L v ib id k → No' k ∨ w1.heap.size ≤ k := fun k hk => by
  obtain ⟨e1, e2, e3, e4⟩ := h
  rcases hk with ⟨hL, hk⟩ | ⟨hL, hk⟩
  · obtain ⟨g, q1, q2, -⟩ := e3 hL
    rw [q1] at hk; cases hk; exact .inr q2
  · obtain ⟨g, q1, q2, -⟩ := e4 hL
    rw [q1] at hk; cases hk; exact .inr q2
end
end Go.Proofs.Ytpciankfpagnhaa
