/- What journal.Open does. -/
import Derived.Test.YtpciankfpagnhaaJ12
import Derived.Test.YtpciankfpagnhaaM1
import Derived.Test.YtpciankfpagnhaaD19
import Derived.Test.YtpciankfpagnhaaD4
import Derived.Test.YtpciankfpagnhaaD7
namespace Go.Proofs.Ytpciankfpagnhaa
open Go.RowKit Go.Shelf

attribute [local go_sem] Oper.semAt_some

def zeroJ : Jn := { records := [], many := 0, synced := 0 }
/-- What Open answers. -/
def openJ (d : Dk) : Jn × Int :=
  if okD d = false then (zeroJ, 410) else if d.stopped = true then (zeroJ, 410) else if d.pending ≠ [] then (zeroJ, 1) else ({ records := recs d.sectors, many := d.sectors.length, synced := (recs d.sectors).length }, 0)
def JournalErr (S : Nat → Prop) (w : World) (x : Jn × Int) (e : Ending) (w' : World) : Prop := ∃ v, e = .returned (.tuple #[v, .int .i64 x.2]) ∧ Journal S w' v x.1 ∧ Ext w w'
theorem JournalErr.mk {S : Nat → Prop} {w w' : World} {x : Jn × Int} {v : Value} {n : Int} {j : Jn} (h : x = (j, n)) (hd : Journal S w' v j) (hx : Ext w w') : JournalErr S w x (.returned (.tuple #[v, .int .i64 n])) w' := by
  subst h; exact ⟨v, rfl, hd, hx⟩
theorem zeroJ_journal (S : Nat → Prop) (w : World) : Journal S w (.agg #[.slice none 0 0, .int .i64 0, .int .i64 0]) zeroJ := Journal.mk' (Sl.nil _ _ _ _)

theorem cell_putObj {W : World} {l : Nat} {o o' : Obj} (hl : W.heap[l]? = some o) (ho : o.isCells = false) {b i : Nat} {v : Value} (h : W.cell? ⟨b, i, none⟩ = some v) : (W.putObj l o').cell? ⟨b, i, none⟩ = some v := by
  by_cases e : b = l
  · subst e
    cases o <;> simp_all [World.cell?, Obj.isCells]
  · rw [World.cell?_of_block (w := W) (a := ⟨b, i, none⟩) (World.putObj_heap_other e)]; exact h
theorem Bs.putObj {S : Nat → Prop} {W : World} {l : Nat} {o o' : Obj} (hl : W.heap[l]? = some o) (ho : o.isCells = false) {v : Value} {xs : List UInt8} (h : Bs S W v xs) : Bs S (W.putObj l o') v xs := by
  obtain ⟨a, c, cells, rfl, h1, h2, h3, h4, h5⟩ := h
  refine ⟨a, c, cells, rfl, h1, h2, h3, h4, ?_⟩
  rcases h5 with h5 | ⟨b, o, rfl, hb, h5⟩
  · exact .inl h5
  · exact .inr ⟨b, o, rfl, ⟨by simpa using hb.1, hb.2⟩, fun j u hj => cell_putObj hl ho (h5 j u hj)⟩
theorem osl_putObj {base : Nat} {S : Nat → Prop} {W : World} {l : Nat} {o o' : Obj} (hl : W.heap[l]? = some o) (ho : o.isCells = false) {v : Value} {xs : List (List UInt8)} (h : OSl base 35 1 eBs S W v xs) : OSl base 35 1 eBs S (W.putObj l o') v xs := by
  obtain ⟨cells, hown, hS, hel⟩ := h
  refine ⟨cells, ⟨hown.1, ?_⟩, hS, fun i x hi => ?_⟩
  · rcases hown.2 with h | ⟨g, cap, cur, e, hg, hh, h3⟩
    · exact .inl h
    · refine .inr ⟨g, cap, cur, e, hg, ?_, h3⟩
      rw [World.putObj_heap_other]
      · exact hh
      · intro e; subst e; rw [hl] at hh; cases hh; simp [Obj.isCells] at ho
  · obtain ⟨u, e, hu⟩ := hel i x hi
    exact ⟨u, e, hu.putObj hl ho⟩
theorem Box.putObj {W : World} {l b : Nat} {o o' : Obj} (hl : W.heap[l]? = some o) (ho : o.isCells = false) {cs : List Value} (h : Box W b cs) : Box (W.putObj l o') b cs := by
  obtain ⟨t, h⟩ := h
  refine ⟨t, ?_⟩
  rw [World.putObj_heap_other]
  · exact h
  · intro e; subst e; rw [hl] at h; cases h; simp [Obj.isCells] at ho
theorem ext_putObj {w W : World} {l : Nat} {o o' : Obj} (h : Ext w W) (hl : w.heap.size ≤ l) (hlo : W.heap[l]? = some o) : Ext w (W.putObj l o') :=
  h.trans' ((Below.refl _ W).grown (grownBy_putObj' W l o') (by have := (Array.getElem?_eq_some_iff.1 hlo).1; omega) (fun k e => by cases e; exact hl))
theorem osl_cellsB {base : Nat} {e : TypeId} {size : Nat} {α : Type} {E : (Nat → Prop) → World → List Value → α → Prop} {S : Nat → Prop} {W : World} {v : Value} {xs : List α} (h : OSl base e size E S W v xs) : ∀ j o, v.ownBlock = some j → W.heap[j]? = some o → o.isCells = true := by
  obtain ⟨cells, hown, _⟩ := h
  intro j o hj ho
  rcases hown.2 with ⟨e, _⟩ | ⟨g, cap, cur, e, hg, hh, h3⟩
  · subst e; cases hj
  · subst e; simp [Value.ownBlock] at hj; subst hj; rw [hh] at ho; cases ho; rfl

set_option maxHeartbeats 400000 in
theorem records_ok (w : World) (a : Option Addr) (n c : Nat) :
    CallsIn Fence.wide 1 Try.prog 64 #[.slice a n c] w fun e w' => e = .returned (.func (.func 82) #[] #[.pointer (some ⟨w.heap.size, 0, none⟩)]) ∧ w' = w.alloc (.cells #[.slice a n c] 22) := by
  refine callsIn_of_wp Try.func64 rfl trivial ?_ rfl
  simp only [Try.ntmps64, List.size_toArray, List.length_cons, List.length_nil, Nat.reduceAdd, Nat.reduceSub, Array.replicate_succ, Array.replicate_zero, List.push_toArray, List.append_toArray, List.nil_append, List.cons_append]
  gi_wp2
  go_ret
  exact ⟨rfl, rfl⟩

set_option maxRecDepth 100000 in
set_option maxHeartbeats 4000000 in
theorem open_ok {S : Nat → Prop} (w : World) (v : Value) (d : Dk) (h : Disk S w v d) (hS : ∀ k, S k → k < w.heap.size) : Calls Try.prog 38 #[v] w (JournalErr S w (openJ d)) := by
  obtain ⟨a, c, a2, c2, rfl, hc, hm, hc2, hm2, h1, h2⟩ := h.open
  have H := Lib.hid h; clear h
  have H1 := Lib.hid h1; clear h1 h2
  have HSS := Lib.hid hS; clear hS
  refine (callsIn_wide (n := 2)).1 ?_
  refine callsIn_of_wp_marks Try.func38 rfl trivial ?_ rfl
  simp only [Try.ntmps38, List.size_toArray, List.length_cons, List.length_nil, Nat.reduceAdd, Nat.reduceSub, Array.replicate_succ, Array.replicate_zero, List.push_toArray, List.append_toArray, List.nil_append, List.cons_append]
  gi_wp2_with fail
  refine ⟨trivial, (callsIn_wide.2 (check_ok _ _ d (H.out.keep (((Ext.refl _).alloc _).alloc _)))).mono ?_⟩
  rintro e w1 ⟨rfl, hx⟩
  have hE := (((Ext.refl w).alloc _).alloc _).trans hx
  have B0 := Lib.hid (((Box.new w _ _).past _).keep hx)
  have B1 := Lib.hid ((Box.at (b := w.heap.size + 1) (by simp)).keep hx)
  clear hx
  obtain ⟨c00, c01, c02, c03, f00, f01, f02, f03⟩ := B0.out.four
  obtain ⟨c10, c11, c12, f10, f11, f12⟩ := B1.out.three
  cases hr : okD d
  · rw [chk_no hr]
    gi_wp2_with fail
    refine ⟨.tuple #[.agg #[.slice none 0 0, .int .i64 0, .int .i64 0], .int .i64 410], ?_, JournalErr.mk (j := zeroJ) (by simp [openJ, hr]) (zeroJ_journal _ _) ?_⟩
    · simp [results, Try.results38, go_sem, *]
    · repeat (first | exact hE | refine Ext.setCell ?_ (by simp) _)
  rw [chk_yes hr]
  cases hst : d.stopped
  case true =>
    rw [hst] at c03
    have HST := Lib.hid hst; clear hst
    gi_wp2_with fail
    refine ⟨.tuple #[.agg #[.slice none 0 0, .int .i64 0, .int .i64 0], .int .i64 410], ?_, JournalErr.mk (j := zeroJ) (by simp [openJ, hr, HST.out]) (zeroJ_journal _ _) ?_⟩
    · simp [results, Try.results38, go_sem, *]
    · repeat (first | exact hE | refine Ext.setCell ?_ (by simp) _)
  rw [hst] at c03
  have HST := Lib.hid hst; clear hst
  by_cases hp : d.pending = []
  case neg =>
    have hp0 : (0 : Int) < d.pending.length := by have := List.length_pos_iff.2 hp; omega
    have HP := Lib.hid hp; clear hp
    gi_wp2_with fail
    refine ⟨.tuple #[.agg #[.slice none 0 0, .int .i64 0, .int .i64 0], .int .i64 1], ?_, JournalErr.mk (j := zeroJ) (by simp [openJ, hr, HST.out, HP.out]) (zeroJ_journal _ _) ?_⟩
    · simp [results, Try.results38, go_sem, *]
    · repeat (first | exact hE | refine Ext.setCell ?_ (by simp) _)
  have hpl : d.pending.length = 0 := by rw [hp]; rfl
  have hp0 : ¬ (0 : Int) < d.pending.length := by omega
  have HP := Lib.hid hp; clear hp
  have HPL := Lib.hid hpl; clear hpl
  gi_wp2_with fail
  generalize hg2 : w.heap.size + 1 = g2 at *
  have hgs : w.heap.size ≤ g2 := by omega
  have HG2 := Lib.hid hg2; clear hg2
  have B2 := B1.out.set 1 (.int .i64 (d.sectors.length : Int))
  have hE2 := hE.setCell (p := ⟨g2, 1, none⟩) hgs (.int .i64 (d.sectors.length : Int))
  have hsl : Bss (fun k => k = g2) (w1.setCell ⟨g2, 1, none⟩ (.int .i64 (d.sectors.length : Int))) (.slice a d.sectors.length c) d.sectors :=
    Bss.keep (H1.out.more etBs (S' := fun k => k = g2) (fun k hk => .inr (by omega))) hE2
  generalize w1.setCell ⟨g2, 1, none⟩ (.int .i64 (d.sectors.length : Int)) = w2 at *
  simp only [List.set_cons_succ, List.set_cons_zero] at B2
  clear c00 c01 c02 c03 f00 f01 f02 f03 c10 c11 c12 f10 f11 f12 B0 B1 hE
  refine ⟨trivial, (records_ok w2 a d.sectors.length c).mono ?_⟩
  rintro e w3 ⟨rfl, hw3⟩
  obtain ⟨hk1, hk2, hk3⟩ := (okD_iff d).1 hr
  have h128 : ∀ s ∈ d.sectors, s.length = 128 := fun s hs => by
    rw [List.any_eq_false] at hk3
    have := hk3 s hs
    unfold badS at this
    simp at this; omega
  have hc3 : w3.cell? ⟨w2.heap.size, 0, none⟩ = some (.slice a d.sectors.length c) := by rw [hw3]; exact (Box.new w2 _ _).one.1
  have hE3 : Ext w2 w3 := by rw [hw3]; exact (Ext.refl w2).alloc _
  have hsz3 : w2.heap.size < w3.heap.size := by rw [hw3]; simp
  have hB2lt := B2.lt
  have B3 := Lib.hid (B2.keep hE3)
  have hsq := rec1_seq w2.heap.size g2 (.slice a d.sectors.length c) d.sectors w3 hc3 hsz3 (by omega) (Bss.keep hsl hE3) (by omega) (by omega) h128
  have HSQ := Lib.hid hsq; clear hsq
  have hEw := hE2.trans hE3
  clear hw3 hc3 hsl h128 hk2 hk3 B2 hE2 hE3
  have hS3 : ∀ k, S k → k < w3.heap.size := fun k hk => Nat.lt_of_lt_of_le (HSS.out k hk) hEw.size
  have hg23 : g2 < w3.heap.size := by omega
  gi_wp2_with fail
  refine wpIn_rangeFunc_t (g := g2) rfl (enters_of Try.func82 (by kernel_rfl) rfl) HSQ.out (fun _ => rfl)
    (fun pre W => (Ext w W ∧ w3.heap.size ≤ W.heap.size) ∧ ∃ ar cr, Box W g2 [.slice ar pre.length cr, .int .i64 (d.sectors.length : Int), .int .i64 0] ∧ OSl w3.heap.size 35 1 eBs (fun k => S k ∨ k = g2) W (.slice ar pre.length cr) (pre.map (·.bytes)))
    (fun pre x W => (Ext w W ∧ w3.heap.size ≤ W.heap.size) ∧ ∃ ar cr, Box W g2 [.slice ar pre.length cr, .int .i64 (d.sectors.length : Int), .int .i64 0] ∧ OSl w3.heap.size 35 1 eBs (fun k => S k ∨ k = g2) W (.slice ar pre.length cr) (pre.map (·.bytes)) ∧ Bs (Wo (fun k => S k ∨ k = g2) (.slice ar pre.length cr)) W (.slice x.a x.n x.c) x.bytes)
    ?hx ?hI ?hIT ?hT ?h0 ?a1 ?assign ?body ?done
  case hx =>
    rintro pre W W' ⟨h1, ar, cr, h2, h3⟩ hx
    exact ⟨⟨h1.1.trans hx, Nat.le_trans h1.2 hx.size⟩, ar, cr, h2.keep hx, h3.keep etBs hx⟩
  case hI =>
    rintro pre W l o o' ⟨h1, ar, cr, h2, h3⟩ hl hlo ho
    exact ⟨⟨ext_putObj h1.1 (Nat.le_trans hEw.size hl) hlo, by simpa using h1.2⟩, ar, cr, h2.putObj hlo ho, osl_putObj hlo ho h3⟩
  case hIT =>
    rintro pre x W l o o' ⟨h1, ar, cr, h2, h3, h4⟩ hl hlo ho
    exact ⟨⟨ext_putObj h1.1 (Nat.le_trans hEw.size hl) hlo, by simpa using h1.2⟩, ar, cr, h2.putObj hlo ho, osl_putObj hlo ho h3, h4.putObj hlo ho⟩
  case hT =>
    rintro pre x Wl W ⟨h1, ar, cr, h2, h3⟩ hx ht
    have hb := fun k hk => (h3.block k hk).2
    have hz := h1.1.size
    have hlt := h2.lt
    refine ⟨⟨h1.1.trans hx, Nat.le_trans h1.2 hx.size⟩, ar, cr, h2.keep hx, h3.keep etBs hx, Sl.more etByte ht ?_⟩
    rintro k ((hk | hk) | hk)
    · exact .inl (Nat.lt_of_lt_of_le (HSS.out k hk) hz)
    · exact .inl (by subst hk; exact hlt)
    · exact .inl (hb k hk)
  case h0 => exact ⟨⟨hEw, Nat.le_refl _⟩, none, 0, B3.out, OSl.nil _ _ _ _ _ _⟩
  case a1 => exact fun x => { tmps := #[.agg #[.slice a d.sectors.length c, .slice a2 d.pending.length c2, .int .i64 d.left, .bool false], .pointer (some ⟨w.heap.size, 0, none⟩), .pointer (some ⟨g2, 0, none⟩), .int .i64 0, .int .i64 0, undef, .slice x.a x.n x.c, .agg #[.slice a d.sectors.length c, .slice a2 d.pending.length c2, .int .i64 d.left, .bool false], .int .i64 0, .int .i64 0, .bool false, undef, undef, .pointer (some ⟨w.heap.size, 3, none⟩), .bool false, undef, .pointer (some ⟨w.heap.size, 1, none⟩), .slice a2 d.pending.length c2, .int .i64 d.pending.length, .bool false, undef, .pointer (some ⟨w.heap.size, 0, none⟩), .slice a d.sectors.length c, .int .i64 d.sectors.length, .pointer (some ⟨g2, 1, none⟩), .pointer (some ⟨w.heap.size, 0, none⟩), .slice a d.sectors.length c, .func (.func 82) #[] #[.pointer (some ⟨w2.heap.size, 0, none⟩)], .int .i64 x.at_, .slice x.a x.n x.c, undef, undef, undef, undef, undef, undef, undef, undef, undef, undef, undef], defers := [] }
  case assign =>
    intro l x W K hK
    simp only [RElt.enc]
    gi_wp2
    exact hK
  case body =>
    rintro l pre x W hN ⟨h1, ar, cr, hB, hO, hb⟩
    obtain ⟨c0, c1, c2', f0, f1, f2⟩ := hB.three
    have hoc := osl_cellsB hO
    have hobk := hO.block
    have hWo : ∀ k, Wo (fun k => S k ∨ k = g2) (.slice ar pre.length cr) k → k < W.heap.size := by
      rintro k ((hk | hk) | hk)
      · exact Nat.lt_of_lt_of_le (HSS.out k hk) h1.1.size
      · subst hk; exact hB.lt
      · exact (hobk k hk).2
    have hlit := bs_lit (t := 35) hWo hb
    have hpl : (pre.map (·.bytes)).length = pre.length := List.length_map _
    have HLIT := Lib.hid hlit; clear hlit
    have HO := Lib.hid hO; clear hO
    have HB := Lib.hid hB; clear hB
    gi_wp2_with (gi_at_builtin; go_loud (refine wpListIn_append_osl (S := fun k => S k ∨ k = g2) atBs etBs rfl _ _ rfl w3.heap.size _ _ (pre.map (·.bytes)) [x.bytes] rfl rfl (HO.out.keep etBs ((Ext.refl W).alloc _)) HLIT.out (fun k hk => by rw [World.size_alloc]; exact Nat.lt_succ_of_lt (hWo k (.inl hk))) (by simp; omega) (by simp; omega) (by rw [World.size_alloc]; exact Nat.le_succ_of_le h1.2) ?_))
    rintro v4 w4 ho4 hg4
    have hne : (Value.slice ar pre.length cr).ownBlock ≠ some g2 := fun e => HO.out.notS _ e (.inr rfl)
    have hrowb : ∀ k, (Value.slice ar pre.length cr).ownBlock = some k → w3.heap.size ≤ k := fun k hk => (hobk k hk).1
    have hb4 : Box w4 g2 _ := (HB.out.past _).grown hg4 hne
    have hx4 : Ext w w4 := (h1.1.alloc _).grown hg4 (fun k hk => Nat.le_trans hEw.size (hrowb k hk))
    have hk4 : KeepsOthers W w4 := (KeepsOthers.alloc W _).trans (KeepsOthers.of_grownBy hg4 (fun j o hj ho => osl_cellsB (HO.out.keep etBs ((Ext.refl W).alloc _)) j o hj ho))
    have hm4 : Mem (Free g2 w3.heap.size) W w4 := (((Ext.refl W).alloc _).mem _).trans ⟨hg4.size, fun kk h1 h2 => hg4.block kk h1 (fun e => h2 (.inr (hrowb kk e.symm)))⟩
    have hs4 := hg4.size
    obtain ⟨a4, c4, rfl, hc4, hm4'⟩ := (ho4.sl etBs).open
    have hlen4 : (pre.map (·.bytes) ++ [x.bytes]).length = (pre ++ [x]).length := by simp
    rw [hlen4] at ho4 ⊢
    have hmap : pre.map (·.bytes) ++ [x.bytes] = (pre ++ [x]).map (·.bytes) := by simp
    rw [hmap] at ho4
    obtain ⟨d0, d1, d2, e0, e1, e2⟩ := hb4.three
    have HO4 := Lib.hid ho4; clear ho4
    have HB4 := Lib.hid hb4; clear hb4
    clear hc4 hlen4 hmap hg4 hoc hpl
    generalize hnp : (pre ++ [x]).length = np at *
    have HNP := Lib.hid hnp; clear hnp
    gi_wp2
    refine ⟨(hk4.trans (KeepsOthers.setCell _ _ _)).from _, hm4.setCell (p := ⟨g2, 0, none⟩) (.inl rfl) _, ⟨hx4.setCell (p := ⟨g2, 0, none⟩) hgs _, ?_⟩, a4, c4, ?_, ?_⟩
    · have h9 := h1.2
      simp only [World.size_alloc] at hs4
      simp [World.setCell]; omega
    · rw [HNP.out]; exact HB4.out.set 0 _
    · rw [HNP.out]; exact HO4.out.keepM etBs ((Mem.refl _ w4).setCell (.inr rfl) _)
  case done =>
    rintro D xs W hD hS ⟨⟨h1, hsz⟩, ar, cr, hB, hO⟩ hK
    obtain ⟨c0, c1, c2', f0, f1, f2⟩ := hB.three
    have hxl : xs.length = (recs d.sectors).length := by rw [← hS]; simp
    rw [hS] at hO
    have HS := Lib.hid hS; clear hS
    have HO := Lib.hid hO; clear hO
    have HB := Lib.hid hB; clear hB
    rw [hxl] at c0 HO HB
    have HXL := Lib.hid hxl; clear hxl
    have HO1 : openJ d = ({ records := recs d.sectors, many := d.sectors.length, synced := (recs d.sectors).length }, 0) := by
      unfold openJ; rw [if_neg (by rw [hr]; decide), if_neg (by rw [HST.out]; decide), if_neg (by rw [HP.out]; simp)]
    have HOJ := Lib.hid HO1; clear HO1
    generalize recs d.sectors = rs at *
    gi_wp2
    generalize hWa : W.setCell ⟨g2, 2, none⟩ (.int .i64 (rs.length : Int)) = Wa
    generalize hWb : ((Wa.setCell ⟨g2, 0, none⟩ (.slice ar rs.length cr)).setCell ⟨g2, 1, none⟩ (.int .i64 (d.sectors.length : Int))).setCell ⟨g2, 2, none⟩ (.int .i64 (rs.length : Int)) = Wb
    obtain ⟨hba, hoa⟩ := box_set1 HB.out hWa
    simp only [List.set_cons_succ, List.set_cons_zero] at hba
    obtain ⟨hbb, hob⟩ := box_set3 hba hWb
    have hDg : D ≠ g2 := by
      intro e; subst e
      obtain ⟨t, ht⟩ := HB.out
      rw [ht] at hK; cases hK
    have hKb : Wb.heap[D]? = some (.deferred (some [])) := by rw [hob.block D hDg, hoa.block D hDg]; exact hK
    have hEb : Ext w Wb := hob.ext (hoa.ext h1 (by omega)) (by omega)
    have hOb : OSl w3.heap.size 35 1 eBs (fun k => S k ∨ k = g2) Wb (.slice ar rs.length cr) rs := HO.out.keepM etBs ((hoa.mem (.inr rfl)).trans (hob.mem (.inr rfl)))
    clear hWa hWb hba
    refine ⟨by simp, .inl ⟨_, _, rfl, run_takeDeferred hKb, ?_⟩⟩
    have hbf := Box.putObj (o' := .deferred none) hKb rfl hbb
    obtain ⟨z0, z1, z2, y0, y1, y2⟩ := hbf.three
    have hOf := osl_putObj (o' := .deferred none) hKb rfl hOb
    have hEf : Ext w (Wb.putObj D (.deferred none)) := ext_putObj hEb (Nat.le_trans hEw.size hD) hKb
    refine ⟨.tuple #[.agg #[.slice ar rs.length cr, .int .i64 (d.sectors.length : Int), .int .i64 (rs.length : Int)], .int .i64 0], ?_, JournalErr.mk HOJ.out (Journal.mk' (Sl.more etBs (hOf.sl etBs) (fun k hk => .inl (.inl hk)))) hEf⟩
    simp [results, Try.results38, go_sem, z0, z1, z2]
end Go.Proofs.Ytpciankfpagnhaa

/- What Room and Append do. -/
namespace Go.Proofs.Ytpciankfpagnhaa
open Go.RowKit

/-- How many sectors are left, as a machine's number. -/
def leftJ (j : Jn) : Int := wrap64 (j.many - usedW j.records)
def roomJ (j : Jn) : Int := if okJ j = true then wrap64 (112 * leftJ j) else 0
def appendJ (j : Jn) (b : List UInt8) : Jn × Int := if okJ j = false then (zeroJ, 1) else if leftJ j < (secN b.length : Int) then (zeroJ, 2) else ({ j with records := j.records ++ [b] }, 0)
theorem chkJ_no {j : Jn} (h : okJ j = false) : chkJ j = 1 := by simp [chkJ, h]
theorem chkJ_yes {j : Jn} (h : okJ j = true) : chkJ j = 0 := by simp [chkJ, h]
theorem usedW_range (l : List (List UInt8)) : -9223372036854775808 ≤ usedW l ∧ usedW l ≤ 9223372036854775807 := by
  induction l using snoc_ind with
  | h0 => exact ⟨by decide, by decide⟩
  | h1 l b ih => rw [usedW_snoc]; unfold wrap64; omega

set_option maxRecDepth 100000 in
set_option maxHeartbeats 2000000 in
theorem room_ok {S : Nat → Prop} (w : World) (v : Value) (j : Jn) (h : Journal S w v j) (hl : ReachB j.records) :
    Calls Try.prog 45 #[v] w fun e w' => e = .returned (.int .i64 (roomJ j)) ∧ Ext w w' := by
  obtain ⟨a, c, rfl, hc, hm, h1⟩ := h.open
  have H := Lib.hid h; clear h
  have H1 := Lib.hid h1; clear h1
  have HL := Lib.hid hl; clear hl
  go_enter Try.func45, Try.ntmps45
  go_wp2_with fail
  refine (checkJ_ok _ _ j (H.out.keep ((Ext.refl _).alloc _)) HL.out).mono ?_
  rintro e w1 ⟨rfl, hx⟩
  have hE := ((Ext.refl w).alloc _).trans hx
  have B0 := (Box.new w [.slice a j.records.length c, .int .i64 j.many, .int .i64 j.synced] 55).keep hx
  obtain ⟨c0, c1, c2, -, -, -⟩ := B0.three
  clear hx B0
  cases hok : okJ j
  · rw [chkJ_no hok]
    go_wp2_with fail
    go_ret
    exact ⟨ret_i (by unfold roomJ; rw [if_neg (by rw [hok]; decide)]), hE⟩
  rw [chkJ_yes hok]
  have K0 := Lib.hid (fun n => Calls.quiet_of_same (w := w1) (n := n) (Calls.mono (used_ok (w1.drewN n) (.slice a j.records.length c) j.records (H1.out.keep (hE.trans (Ext.drewN _ n))) HL.out) (fun _ _ h => (⟨h.1, h.2.symm⟩ : _ ∧ _))))
  have HR : Hid (roomJ j = wrap64 (112 * wrap64 (j.many - usedW j.records))) := by show _ = _; unfold roomJ leftJ; rw [if_pos hok]
  generalize usedW j.records = u at *
  go_wp2_with fail
  go_quiet ((go_at_call 67; exact K0.out _))
  go_wp2_with fail
  go_ret
  exact ⟨ret_i (by rw [HR.out]), hE.trans (Ext.drewN _ _)⟩

set_option maxRecDepth 100000 in
set_option maxHeartbeats 2000000 in
theorem refRoom_ok {S : Nat → Prop} (w : World) (v : Value) (j : Jn) (h : Journal S w v j) (hl : ReachB j.records) :
    Calls Try.prog 46 #[v] w fun e w' => e = .returned (.int .i64 (roomJ j)) ∧ Ext w w' := by
  obtain ⟨a, c, rfl, hc, hm, h1⟩ := h.open
  have H := Lib.hid h; clear h
  have H1 := Lib.hid h1; clear h1
  have HL := Lib.hid hl; clear hl
  go_enter Try.func46, Try.ntmps46
  go_wp2_with fail
  refine (refCheckJ_ok _ _ j (H.out.keep ((Ext.refl _).alloc _)) HL.out).mono ?_
  rintro e w1 ⟨rfl, hx⟩
  have hE := ((Ext.refl w).alloc _).trans hx
  have B0 := (Box.new w [.slice a j.records.length c, .int .i64 j.many, .int .i64 j.synced] 55).keep hx
  obtain ⟨c0, c1, c2, -, -, -⟩ := B0.three
  clear hx B0
  cases hok : okJ j
  · rw [chkJ_no hok]
    go_wp2_with fail
    go_ret
    exact ⟨ret_i (by unfold roomJ; rw [if_neg (by rw [hok]; decide)]), hE⟩
  rw [chkJ_yes hok]
  have K0 := Lib.hid (fun n => Calls.quiet_of_same (w := w1) (n := n) (Calls.mono (refUsed_ok (w1.drewN n) (.slice a j.records.length c) j.records (H1.out.keep (hE.trans (Ext.drewN _ n))) HL.out) (fun _ _ h => (⟨h.1, h.2.symm⟩ : _ ∧ _))))
  have HR : Hid (roomJ j = wrap64 (112 * wrap64 (j.many - usedW j.records))) := by show _ = _; unfold roomJ leftJ; rw [if_pos hok]
  generalize usedW j.records = u at *
  go_wp2_with fail
  go_quiet ((go_at_call 70; exact K0.out _))
  go_wp2_with fail
  go_ret
  exact ⟨ret_i (by rw [HR.out]), hE.trans (Ext.drewN _ _)⟩

set_option maxRecDepth 100000 in
set_option maxHeartbeats 4000000 in
theorem append_ok {S : Nat → Prop} (w : World) (v vb : Value) (j : Jn) (b : List UInt8) (h : Journal S w v j) (hb : Bs S w vb b) (hl : ReachB j.records) (hbl : b.length ≤ 140737488355328)
    (hcl : (secN b.length : Int) ≤ leftJ j → b.length ≤ 1000000) (hcn : (j.records.length + 1) * 24 ≤ 140737488355328) (hS : ∀ k, S k → k < w.heap.size) : Calls Try.prog 41 #[v, vb] w (JournalErr S w (appendJ j b)) := by
  obtain ⟨a, c, rfl, hc, hm, h1⟩ := h.open
  obtain ⟨ab, cb, rfl, hcb, hmb⟩ := hb.open
  have H := Lib.hid h; clear h
  have H1 := Lib.hid h1; clear h1
  have HB := Lib.hid hb; clear hb
  have HL := Lib.hid hl; clear hl
  have HS := Lib.hid hS; clear hS
  have HCL := Lib.hid hcl; clear hcl
  have HCN := Lib.hid hcn; clear hcn
  go_enter Try.func41, Try.ntmps41
  go_wp2_with fail
  refine (checkJ_ok _ _ j (H.out.keep (((Ext.refl _).alloc _).alloc _)) HL.out).mono ?_
  rintro e w1 ⟨rfl, hx⟩
  have hE := (((Ext.refl w).alloc _).alloc _).trans hx
  have B0 := Lib.hid (((Box.new w _ _).past _).keep hx)
  have B1 := Lib.hid ((Box.at (b := w.heap.size + 1) (by simp)).keep hx)
  clear hx
  obtain ⟨c00, c01, c02, f00, f01, f02⟩ := B0.out.three
  obtain ⟨c10, c11, c12, f10, f11, f12⟩ := B1.out.three
  have hs1 : w.heap.size + 1 < w1.heap.size := B1.out.lt
  cases hok : okJ j
  · rw [chkJ_no hok]
    go_wp2_with fail
    refine bodyPost_ret (v := .tuple #[.agg #[.slice none 0 0, .int .i64 0, .int .i64 0], .int .i64 1]) (by simp [results, Try.results41, go_sem, *]) rfl (JournalErr.mk (j := zeroJ) (by simp [appendJ, hok]) (zeroJ_journal _ _) ?_)
    repeat (first | exact hE | refine Ext.setCell ?_ (by simp) _)
  rw [chkJ_yes hok]
  have K0 := Lib.hid (fun n => Calls.quiet_of_same (w := w1) (n := n) (Calls.mono (used_ok (w1.drewN n) (.slice a j.records.length c) j.records (H1.out.keep (hE.trans (Ext.drewN _ n))) HL.out) (fun _ _ h => (⟨h.1, h.2.symm⟩ : _ ∧ _))))
  have K1 := Lib.hid (fun n => Calls.quiet_of_same (w := w1) (n := n) (Calls.mono (sectors_ok (w1.drewN n) _ b (HB.out.keep (hE.trans (Ext.drewN _ n))) hbl) (fun _ _ h => (⟨h.1, h.2.symm⟩ : _ ∧ _))))
  have HLJ : Hid (leftJ j = wrap64 (j.many - usedW j.records)) := by show _ = _; rfl
  go_wp2_with fail
  generalize usedW j.records = u at *
  by_cases q : wrap64 (j.many - u) < (secN b.length : Int)
  · have hd : decide (wrap64 (j.many - u) < (secN b.length : Int)) = true := by simpa using q
    have HQ := Lib.hid q; clear q
    go_quiet (first | (go_at_call 67; exact K0.out _) | (go_at_call 66; exact K1.out _))
    go_wp2_with fail
    refine bodyPost_ret (v := .tuple #[.agg #[.slice none 0 0, .int .i64 0, .int .i64 0], .int .i64 2]) (by simp [results, Try.results41, go_sem, *]) rfl (JournalErr.mk (j := zeroJ) (by unfold appendJ; rw [if_neg (by rw [hok]; decide), if_pos (by rw [HLJ.out]; exact HQ.out)]) (zeroJ_journal _ _) ?_)
    repeat (first | exact hE | exact hE.trans (Ext.drewN _ _) | refine Ext.setCell ?_ (by simp) _)
  have hd : decide (wrap64 (j.many - u) < (secN b.length : Int)) = false := by simpa using q
  have hAJ : appendJ j b = ({ j with records := j.records ++ [b] }, 0) := by
    unfold appendJ; rw [if_neg (by rw [hok]; decide), if_neg (by rw [HLJ.out]; exact q)]
  have HAJ := Lib.hid hAJ; clear hAJ
  have hb6 : b.length ≤ 1000000 := HCL.out (by rw [HLJ.out]; omega)
  have HD := Lib.hid hd
  clear q HCL HLJ
  go_quiet (first | (go_at_call 67; exact K0.out _) | (go_at_call 66; exact K1.out _))
  have hE2 := hE.trans (Ext.drewN w1 nq)
  have B02 := Lib.hid (B0.out.keep (Ext.drewN w1 nq)); clear B0
  have B12 := Lib.hid (B1.out.keep (Ext.drewN w1 nq)); clear B1
  have hs2 : w.heap.size + 1 < (w1.drewN nq).heap.size := hs1
  clear K0 K1 c00 c01 c02 f00 f01 f02 c10 c11 c12 f10 f11 f12 hd hE hs1
  generalize w1.drewN nq = w2 at *
  obtain ⟨c00, c01, c02, f00, f01, f02⟩ := B02.out.three
  go_wp2_with fail
  refine (clipS_ok (S := Bx S w.heap.size (w.heap.size + 2)) w2 _ j.records (Bss.keep (H1.out.more etBs Bx.more) hE2)).mono ?_
  rintro e w3 ⟨a5, rfl, hv5, hx5⟩
  have hE3 := hE2.trans hx5
  have B03 := Lib.hid (B02.out.keep hx5); clear B02
  have B13 := Lib.hid (B12.out.keep hx5); clear B12
  clear c00 c01 c02 f00 f01 f02
  obtain ⟨c00, c01, c02, f00, f01, f02⟩ := B03.out.three
  have HV5 := Lib.hid hv5; clear hv5
  have hs3 : w.heap.size + 2 ≤ w3.heap.size := by have := hx5.size; omega
  go_wp2_with fail
  refine (cloneB_ok (S := Bx S w.heap.size (w.heap.size + 2)) w3 _ b (Bs.keep (Sl.more etByte HB.out Bx.more) hE3) hb6 (Bx.lt HS.out hE3.size hs3)).mono ?_
  rintro e w4 ⟨v4, rfl, ho4, hx4⟩
  have hv4 := ho4.sl etByte; clear ho4
  obtain ⟨a4, c4, rfl, hc4, hm4⟩ := hv4.open
  have hE4 := hE3.trans hx4
  have B04 := Lib.hid (B03.out.keep hx4); clear B03
  have B14 := Lib.hid (B13.out.keep hx4); clear B13
  clear c00 c01 c02 f00 f01 f02
  obtain ⟨c00, c01, c02, f00, f01, f02⟩ := B04.out.three
  have hs4 : w.heap.size + 2 ≤ w4.heap.size := Nat.le_trans hs3 hx4.size
  have hS4 : ∀ k, Bx S w.heap.size (w.heap.size + 2) k → k < w4.heap.size := Bx.lt HS.out hE4.size hs4
  have HLIT := Lib.hid (bs_lit (t := 35) hS4 hv4); clear hv4
  have HV4 := Lib.hid ((Bss.keep HV5.out hx4).keep ((Ext.refl w4).alloc (.cells #[.slice a4 b.length c4] 35))); clear HV5
  have HS4 := Lib.hid hS4; clear hS4
  have B05 := Lib.hid (B04.out.past (.cells #[.slice a4 b.length c4] 35)); clear B04
  have B15 := Lib.hid (B14.out.past (.cells #[.slice a4 b.length c4] 35)); clear B14
  go_wp2_with (at_builtin; go_loud (refine wpList_append_clip (S := Bx S w.heap.size (w.heap.size + 2)) atBs etBs (fun k hk => by rw [World.size_alloc]; exact Nat.lt_succ_of_lt (HS4.out k hk)) rfl _ _ rfl _ _ _ j.records [b] rfl rfl HV4.out HLIT.out (by simp; exact HCN.out) (by have := HCN.out; simp; omega) ?_))
  rintro v6 w6 hv6 hx6
  have hE6 := (hE4.alloc (.cells #[.slice a4 b.length c4] 35)).trans hx6
  have B06 := Lib.hid (B05.out.keep hx6); clear B05
  have B16 := Lib.hid (B15.out.keep hx6); clear B15
  clear c00 c01 c02 f00 f01 f02
  obtain ⟨c00, c01, c02, f00, f01, f02⟩ := B06.out.three
  obtain ⟨c10, c11, c12, f10, f11, f12⟩ := B16.out.three
  obtain ⟨a6, c6, rfl, hc6, hm6⟩ := hv6.open
  have HV6 := Lib.hid hv6; clear hv6 hx6 HLIT HV4
  go_wp2_with fail
  refine bodyPost_ret (v := .tuple #[.agg #[.slice a6 (j.records ++ [b]).length c6, .int .i64 j.many, .int .i64 j.synced], .int .i64 0]) (by simp [results, Try.results41, go_sem, *]) rfl (JournalErr.mk HAJ.out (Journal.mk' (Sl.more etBs (Sl.keepM etBs HV6.out ?_) Bx.less)) ?_)
  · repeat (first | exact Mem.refl _ _ | refine Mem.setCell ?_ (.inr (by simp)) _)
  · repeat (first | exact hE6 | refine Ext.setCell ?_ (by simp) _)

set_option maxRecDepth 100000 in
set_option maxHeartbeats 4000000 in
theorem refAppend_ok {S : Nat → Prop} (w : World) (v vb : Value) (j : Jn) (b : List UInt8) (h : Journal S w v j) (hb : Bs S w vb b) (hl : ReachB j.records) (hbl : b.length ≤ 140737488355328)
    (hcl : (secN b.length : Int) ≤ leftJ j → b.length ≤ 1000000) (hcn : (j.records.length + 1) * 24 ≤ 140737488355328) (hS : ∀ k, S k → k < w.heap.size) : Calls Try.prog 42 #[v, vb] w (JournalErr S w (appendJ j b)) := by
  obtain ⟨a, c, rfl, hc, hm, h1⟩ := h.open
  obtain ⟨ab, cb, rfl, hcb, hmb⟩ := hb.open
  have H := Lib.hid h; clear h
  have H1 := Lib.hid h1; clear h1
  have HB := Lib.hid hb; clear hb
  have HL := Lib.hid hl; clear hl
  have HS := Lib.hid hS; clear hS
  have HCL := Lib.hid hcl; clear hcl
  have HCN := Lib.hid hcn; clear hcn
  go_enter Try.func42, Try.ntmps42
  go_wp2_with fail
  refine (refCheckJ_ok _ _ j (H.out.keep (((Ext.refl _).alloc _).alloc _)) HL.out).mono ?_
  rintro e w1 ⟨rfl, hx⟩
  have hE := (((Ext.refl w).alloc _).alloc _).trans hx
  have B0 := Lib.hid (((Box.new w _ _).past _).keep hx)
  have B1 := Lib.hid ((Box.at (b := w.heap.size + 1) (by simp)).keep hx)
  clear hx
  obtain ⟨c00, c01, c02, f00, f01, f02⟩ := B0.out.three
  obtain ⟨c10, c11, c12, f10, f11, f12⟩ := B1.out.three
  have hs1 : w.heap.size + 1 < w1.heap.size := B1.out.lt
  cases hok : okJ j
  · rw [chkJ_no hok]
    go_wp2_with fail
    refine bodyPost_ret (v := .tuple #[.agg #[.slice none 0 0, .int .i64 0, .int .i64 0], .int .i64 1]) (by simp [results, Try.results42, go_sem, *]) rfl (JournalErr.mk (j := zeroJ) (by simp [appendJ, hok]) (zeroJ_journal _ _) ?_)
    repeat (first | exact hE | refine Ext.setCell ?_ (by simp) _)
  rw [chkJ_yes hok]
  have K0 := Lib.hid (fun n => Calls.quiet_of_same (w := w1) (n := n) (Calls.mono (refUsed_ok (w1.drewN n) (.slice a j.records.length c) j.records (H1.out.keep (hE.trans (Ext.drewN _ n))) HL.out) (fun _ _ h => (⟨h.1, h.2.symm⟩ : _ ∧ _))))
  have K1 := Lib.hid (fun n => Calls.quiet_of_same (w := w1) (n := n) (Calls.mono (refSectors_ok (w1.drewN n) b.length hbl) (fun _ _ h => (⟨h.1, h.2.symm⟩ : _ ∧ _))))
  have HLJ : Hid (leftJ j = wrap64 (j.many - usedW j.records)) := by show _ = _; rfl
  go_wp2_with fail
  generalize usedW j.records = u at *
  by_cases q : wrap64 (j.many - u) < (secN b.length : Int)
  · have hd : decide (wrap64 (j.many - u) < (secN b.length : Int)) = true := by simpa using q
    have HQ := Lib.hid q; clear q
    go_quiet (first | (go_at_call 70; exact K0.out _) | (go_at_call 69; exact K1.out _))
    go_wp2_with fail
    refine bodyPost_ret (v := .tuple #[.agg #[.slice none 0 0, .int .i64 0, .int .i64 0], .int .i64 2]) (by simp [results, Try.results42, go_sem, *]) rfl (JournalErr.mk (j := zeroJ) (by unfold appendJ; rw [if_neg (by rw [hok]; decide), if_pos (by rw [HLJ.out]; exact HQ.out)]) (zeroJ_journal _ _) ?_)
    repeat (first | exact hE | exact hE.trans (Ext.drewN _ _) | refine Ext.setCell ?_ (by simp) _)
  have hd : decide (wrap64 (j.many - u) < (secN b.length : Int)) = false := by simpa using q
  have hAJ : appendJ j b = ({ j with records := j.records ++ [b] }, 0) := by
    unfold appendJ; rw [if_neg (by rw [hok]; decide), if_neg (by rw [HLJ.out]; exact q)]
  have HAJ := Lib.hid hAJ; clear hAJ
  have hb6 : b.length ≤ 1000000 := HCL.out (by rw [HLJ.out]; omega)
  have HD := Lib.hid hd
  clear q HCL HLJ
  go_quiet (first | (go_at_call 70; exact K0.out _) | (go_at_call 69; exact K1.out _))
  have hE2 := hE.trans (Ext.drewN w1 nq)
  have B02 := Lib.hid (B0.out.keep (Ext.drewN w1 nq)); clear B0
  have B12 := Lib.hid (B1.out.keep (Ext.drewN w1 nq)); clear B1
  have hs2 : w.heap.size + 1 < (w1.drewN nq).heap.size := hs1
  clear K0 K1 c00 c01 c02 f00 f01 f02 c10 c11 c12 f10 f11 f12 hd hE hs1
  generalize w1.drewN nq = w2 at *
  obtain ⟨c00, c01, c02, f00, f01, f02⟩ := B02.out.three
  have hs0 : w.heap.size < w2.heap.size := by omega
  have hS2 : ∀ k, Bx S w.heap.size (w.heap.size + 2) k → k < w2.heap.size := Bx.lt HS.out hE2.size (by omega)
  have HS2 := Lib.hid hS2
  have ho1 : OSl w2.heap.size 35 1 eBs (Bx S w.heap.size (w.heap.size + 2)) (w2.alloc (.cells #[] 35)) (.slice (some ⟨w2.heap.size, 0, none⟩) 0 0) [] := OSl.lit0 _ _ _ _ _ _ (Nat.le_refl _) (fun h => absurd (hS2 _ h) (Nat.lt_irrefl _))
  have HO1 := Lib.hid ho1; clear ho1 hS2
  have hx3 := (Ext.refl w2).alloc (.cells #[] 35)
  have hsz3 : w2.heap.size < (w2.alloc (.cells #[] 35)).heap.size := by simp
  have hr3 : Bss (Wo (Bx S w.heap.size (w.heap.size + 2)) (.slice (some ⟨w2.heap.size, 0, none⟩) 0 0)) (w2.alloc (.cells #[] 35)) (.slice a j.records.length c) j.records :=
    Bss.keep (H1.out.more etBs (by
      rintro k ((hk | hk) | hk)
      · exact .inl hk
      · exact .inr hk.1
      · simp [Value.ownBlock] at hk; exact .inr (by omega))) (hE2.trans hx3)
  have HR3 := Lib.hid hr3; clear hr3
  go_wp2_with (at_builtin; go_loud (refine wpList_append_osl (S := Bx S w.heap.size (w.heap.size + 2)) atBs etBs rfl _ _ rfl w2.heap.size _ _ [] j.records rfl rfl HO1.out HR3.out (fun k hk => by rw [World.size_alloc]; exact Nat.lt_succ_of_lt (HS2.out k hk)) (by have := HCN.out; simp; omega) (by have := HCN.out; simp; omega) (Nat.le_of_lt hsz3) ?_))
  rintro v4 w4 ho4 hg4
  have hE4 : Ext w2 w4 := hx3.grown hg4 (fun k hk => by simp [Value.ownBlock] at hk; omega)
  try simp only [List.nil_append] at ho4
  have hb4 := ho4.block
  obtain ⟨a4, c4, rfl, hc4, hm4⟩ := (ho4.sl etBs).open
  have hWo : ∀ k, Wo (Bx S w.heap.size (w.heap.size + 2)) (.slice a4 j.records.length c4) k → k < w4.heap.size := by
    rintro k (hk | hk)
    · exact Nat.lt_of_lt_of_le (HS2.out k hk) hE4.size
    · exact (hb4 k hk).2
  have hbw : Bs (Wo (Bx S w.heap.size (w.heap.size + 2)) (.slice a4 j.records.length c4)) w4 (.slice ab b.length cb) b :=
    Bs.keep (Sl.more etByte HB.out (by
      rintro k ((hk | hk) | hk)
      · exact .inl hk
      · exact .inr hk.1
      · exact .inr (Nat.le_trans hE2.size (hb4 k hk).1))) (hE2.trans hE4)
  have HLIT := Lib.hid (bs_lit (t := 35) hWo hbw); clear hbw
  have HO4 := Lib.hid (ho4.keep etBs ((Ext.refl w4).alloc (.cells #[.slice ab b.length cb] 35))); clear ho4
  have hrow := fun k hk => (hb4 k hk).1
  clear HR3 HO1 hg4 hsz3
  go_wp2_with (at_builtin; go_loud (refine wpList_append_osl (S := Bx S w.heap.size (w.heap.size + 2)) atBs etBs rfl _ _ rfl w2.heap.size _ _ j.records [b] rfl rfl HO4.out HLIT.out (fun k hk => by rw [World.size_alloc]; exact Nat.lt_succ_of_lt (hWo k (.inl hk))) (by simp; exact HCN.out) (by have := HCN.out; simp; omega) (by rw [World.size_alloc]; exact Nat.le_succ_of_le hE4.size) ?_))
  rintro v6 w6 ho6 hg6
  have hx26 : Ext w2 w6 := (hE4.alloc _).grown hg6 hrow
  have hE6 := hE2.trans hx26
  have hv6 := ho6.sl etBs; clear ho6
  have B06 := Lib.hid (B02.out.keep hx26); clear B02
  have B16 := Lib.hid (B12.out.keep hx26); clear B12
  clear c00 c01 c02 f00 f01 f02
  obtain ⟨c00, c01, c02, f00, f01, f02⟩ := B06.out.three
  obtain ⟨c10, c11, c12, f10, f11, f12⟩ := B16.out.three
  obtain ⟨a6, c6, rfl, hc6, hm6⟩ := hv6.open
  have HV6 := Lib.hid hv6; clear hv6 HLIT hg6 hx26 hx3 hE4 HO4
  go_wp2_with fail
  refine bodyPost_ret (v := .tuple #[.agg #[.slice a6 (j.records ++ [b]).length c6, .int .i64 j.many, .int .i64 j.synced], .int .i64 0]) (by simp [results, Try.results42, go_sem, *]) rfl (JournalErr.mk HAJ.out (Journal.mk' (Sl.more etBs (Sl.keepM etBs HV6.out ?_) Bx.less)) ?_)
  · repeat (first | exact Mem.refl _ _ | refine Mem.setCell ?_ (.inr (by simp)) _)
  · repeat (first | exact hE6 | refine Ext.setCell ?_ (by simp) _)

end Go.Proofs.Ytpciankfpagnhaa

/- What journal.Sync writes: plain functions. -/
namespace Go.Proofs.Ytpciankfpagnhaa

/-- How many sectors records occupy. -/
def usedN (l : List (List UInt8)) : Nat := (l.map fun b => secN b.length).sum
theorem usedN_nil : usedN [] = 0 := rfl
theorem usedN_cons (b : List UInt8) (l : List (List UInt8)) : usedN (b :: l) = secN b.length + usedN l := by simp [usedN]
theorem usedN_append (a b : List (List UInt8)) : usedN (a ++ b) = usedN a + usedN b := by simp [usedN]
theorem usedN_split (l : List (List UInt8)) (k : Nat) : usedN (l.take k) + usedN (l.drop k) = usedN l := by rw [← usedN_append, List.take_append_drop]
theorem usedN_len (l : List (List UInt8)) : l.length ≤ usedN l := by
  induction l with
  | nil => exact Nat.le_refl _
  | cons b l ih => rw [usedN_cons, List.length_cons]; have := secN_pos b.length; omega
theorem usedW_eq (l : List (List UInt8)) (h : usedN l ≤ 4611686018427387904) : usedW l = usedN l := by
  induction l using snoc_ind with
  | h0 => rfl
  | h1 l b ih =>
    have h1 : usedN (l ++ [b]) = usedN l + secN b.length := by simp [usedN]
    rw [usedW_snoc, ih (by omega), h1]
    unfold Go.RowKit.wrap64; omega
/-- The sectors of a record. -/
def recSects (g : Nat) : Nat → Bool → Nat → List UInt8 → List Wr
  | _, _, 0, _ => []
  | at_, first, n + 1, b => ⟨at_, sect g at_ (kindOf first (n == 0)) (b.take 112)⟩ :: recSects g (at_ + 1) false n (b.drop 112)
theorem recSects_length (g : Nat) : ∀ n at_ first b, (recSects g at_ first n b).length = n
  | 0, _, _, _ => rfl
  | n + 1, at_, first, b => by rw [recSects, List.length_cons, recSects_length g n]
/-- The sectors of records. -/
def writesOf (g : Nat) : Nat → List (List UInt8) → List Wr
  | _, [] => []
  | at_, b :: rest => recSects g at_ true (secN b.length) b ++ writesOf g (at_ + secN b.length) rest
theorem writesOf_length (g : Nat) : ∀ l at_, (writesOf g at_ l).length = usedN l
  | [], _ => rfl
  | b :: rest, at_ => by rw [writesOf, List.length_append, recSects_length, writesOf_length g rest, usedN_cons]
/-- The generation of what is written next. -/
def genMax (ss : List (List UInt8)) : Nat := ss.foldl (fun g s => max g (max (gen s + 1) (num ((s.drop 124).take (s.length - 124)) + 1))) 1
theorem genMax_snoc (ss : List (List UInt8)) (s : List UInt8) : genMax (ss ++ [s]) = max (genMax ss) (max (gen s + 1) (num ((s.drop 124).take (s.length - 124)) + 1)) := by unfold genMax; rw [List.foldl_append]; rfl
theorem genMax_le (ss : List (List UInt8)) (h : ∀ s ∈ ss, s.length = 128) : genMax ss ≤ 4294967296 := by
  induction ss using snoc_ind with
  | h0 => decide
  | h1 l s ih =>
    have hs := h s (by simp)
    have := ih (fun x hx => h x (by simp [hx]))
    rw [genMax_snoc]
    have m1 := num_lt (s.take 4)
    have m2 := num_lt ((s.drop 124).take (s.length - 124))
    rw [List.length_take, Nat.min_eq_left (by omega)] at m1
    rw [List.length_take, List.length_drop, Nat.min_eq_left (by omega), hs] at m2
    have m1' : gen s < 4294967296 := m1
    have m2' : num ((s.drop 124).take (s.length - 124)) < 4294967296 := by rw [hs]; exact m2
    omega
theorem genMax_pos (ss : List (List UInt8)) : 1 ≤ genMax ss := by
  induction ss using snoc_ind with
  | h0 => decide
  | h1 l s ih => rw [genMax_snoc]; omega
/-- What Sync answers. -/
def syncJ (j : Jn) (d : Dk) : Jn × Dk × Int :=
  if okJ j = false then (zeroJ, zeroD, 1) else
  if okD d = false then (zeroJ, zeroD, 410) else
  if d.stopped = true then (zeroJ, zeroD, 410) else
  if j.many ≠ d.sectors.length ∨ d.pending ≠ [] then (zeroJ, zeroD, 1) else
  if recs d.sectors ≠ j.records.take j.synced.toNat ∨ 4294967295 < genMax d.sectors then (zeroJ, zeroD, 420) else
  if j.synced = j.records.length then (j, d, 0) else
  let r := syncD { d with pending := writesOf (genMax d.sectors) (usedN (j.records.take j.synced.toNat)) (j.records.drop j.synced.toNat) }
  if r.2 ≠ 0 then (zeroJ, r.1, r.2) else ({ j with synced := j.records.length }, r.1, 0)
theorem padS_full {b : List UInt8} (h : b.length = 128) : padS b = b := by unfold padS; rw [h]; simp
/-- A write of a sector. -/
theorem writeD_sect {d : Dk} (h : okD d = true) (hs : d.stopped = false) (at_ g : Nat) (kd : UInt8) (p : List UInt8) (hp : p.length ≤ 112) (hat : at_ < d.sectors.length) (hpl : d.pending.length < 4096) :
    writeD d (at_ : Int) (sect g at_ kd p) = ({ d with pending := d.pending ++ [⟨at_, sect g at_ kd p⟩] }, 0) := by
  have hl := sect_length g at_ kd p hp
  unfold writeD runsD hasD
  rw [h, hs, hl, padS_full hl]
  rw [if_pos (by simp; omega), if_neg (by omega), if_neg (by omega)]
theorem okD_write {d : Dk} (h : okD d = true) (at_ g : Nat) (kd : UInt8) (p : List UInt8) (hp : p.length ≤ 112) (hat : at_ < d.sectors.length) (hpl : d.pending.length < 4096) :
    okD { d with pending := d.pending ++ [⟨at_, sect g at_ kd p⟩] } = true := by
  have hl := sect_length g at_ kd p hp
  rw [okD_iff] at h ⊢
  obtain ⟨⟨h1, h2, h3, h4, h5⟩, h6, h7⟩ := h
  refine ⟨⟨h1, h2, by simp; omega, h4, h5⟩, ?_, h7⟩
  rw [List.any_append, h6]
  simp [badW, hl]; omega
end Go.Proofs.Ytpciankfpagnhaa
