/- What disk.Read does. -/
import Derived.Test.YtpciankfpagnhaaD14
import Derived.Test.YtpciankfpagnhaaD5
namespace Go.Proofs.Ytpciankfpagnhaa
open Go.RowKit Go.Shelf

attribute [local go_sem] Oper.semAt_some

/-- What Read answers. -/
def readL (d : Dk) (i : Int) : List UInt8 :=
  match d.pending.reverse.find? (fun x => x.at_ == i) with
  | some x => x.data
  | none => d.sectors.getD i.toNat []
def readD (d : Dk) (i : Int) : List UInt8 × Int := if (runsD d && hasD d i) = true then (readL d i, 0) else ([], 410)
def BytesErr (S : Nat → Prop) (w : World) (x : List UInt8 × Int) (e : Ending) (w' : World) : Prop := ∃ v, e = .returned (.tuple #[v, .int .i64 x.2]) ∧ Bs S w' v x.1 ∧ Ext w w'

theorem BytesErr.mk {S : Nat → Prop} {w w' : World} {x : List UInt8 × Int} {v : Value} {n : Int} {l : List UInt8} (h : x = (l, n)) (hd : Bs S w' v l) (hx : Ext w w') : BytesErr S w x (.returned (.tuple #[v, .int .i64 n])) w' := by
  subst h; exact ⟨v, rfl, hd, hx⟩
theorem Ext.setCell2 {a w : World} {B C : Nat} {u v : Value} (h : Ext a w) (hb : a.heap.size ≤ B) (hc : a.heap.size ≤ C) : Ext a ((w.setCell ⟨B, 0, none⟩ u).setCell ⟨C, 0, none⟩ v) := (h.setCell (p := ⟨B, 0, none⟩) hb u).setCell (p := ⟨C, 0, none⟩) hc v

theorem Ext.trans' {a b c : World} (h : Ext a b) (k : Below a.heap.size b c) : Ext a c := Below.trans h k
theorem readL_hit (d : Dk) (i : Int) (k : Nat) (hk : k < d.pending.length) (h1 : ∀ j (hj : j < k), (d.pending[d.pending.length - 1 - j]'(by omega)).at_ ≠ i) (h2 : (d.pending[d.pending.length - 1 - k]'(by omega)).at_ = i) :
    readL d i = (d.pending[d.pending.length - 1 - k]'(by omega)).data := by
  have : d.pending.reverse.find? (fun x => x.at_ == i) = some (d.pending[d.pending.length - 1 - k]'(by omega)) := by
    rw [List.find?_eq_some_iff_getElem]
    refine ⟨by simpa using h2, k, by simpa using hk, by rw [List.getElem_reverse], fun j hj => ?_⟩
    rw [List.getElem_reverse]
    simpa using h1 j hj
  unfold readL; rw [this]
theorem readL_miss (d : Dk) (i : Int) (h1 : ∀ j (hj : j < d.pending.length), (d.pending[d.pending.length - 1 - j]'(by omega)).at_ ≠ i) : readL d i = d.sectors.getD i.toNat [] := by
  have : d.pending.reverse.find? (fun x => x.at_ == i) = none := by
    rw [List.find?_eq_none]
    intro x hx
    obtain ⟨j, hj, rfl⟩ := List.getElem_of_mem hx
    rw [List.getElem_reverse]
    simpa using h1 j (by simpa using hj)
  unfold readL; rw [this]

set_option maxRecDepth 100000 in
set_option maxHeartbeats 2000000 in
theorem read_ok {S : Nat → Prop} (w : World) (v : Value) (d : Dk) (i : Int) (h : Disk S w v d) : Calls Try.prog 28 #[v, .int .i64 i] w (BytesErr S w (readD d i)) := by
  obtain ⟨a, c, a2, c2, rfl, hc, hm, hc2, hm2, h1, h2⟩ := h.open
  have H := Lib.hid h; clear h
  have H1 := Lib.hid h1; clear h1
  have H2 := Lib.hid h2; clear h2
  refine (callsIn_wide (n := 2)).1 ?_
  refine callsIn_of_wp_marks Try.func28 rfl trivial ?_ rfl
  simp only [Try.ntmps28, List.size_toArray, List.length_cons, List.length_nil, Nat.reduceAdd, Nat.reduceSub, Array.replicate_succ, Array.replicate_zero, List.push_toArray, List.append_toArray, List.nil_append, List.cons_append]
  gi_wp2_with fail
  refine ⟨trivial, (callsIn_wide.2 (runs_ok _ _ d (H.out.keep (((((Ext.refl _).alloc _).alloc _).alloc _).alloc _)))).mono ?_⟩
  rintro e w1 ⟨rfl, hx⟩
  have hE := (((((Ext.refl w).alloc _).alloc _).alloc _).alloc _).trans hx
  have B0 := Lib.hid (((((Box.new w _ _).past _).past _).past _).keep hx)
  have B1 := Lib.hid ((((Box.at (b := w.heap.size + 1) (by simp)).past _).past _).keep hx)
  have B2 := Lib.hid (((Box.at (b := w.heap.size + 1 + 1) (by simp)).past _).keep hx)
  have B3 := Lib.hid ((Box.at (b := w.heap.size + 1 + 1 + 1) (by simp)).keep hx)
  clear hx
  obtain ⟨c00, c01, c02, c03, f00, f01, f02, f03⟩ := B0.out.four
  obtain ⟨c10, f10⟩ := B1.out.one
  obtain ⟨c20, f20⟩ := B2.out.one
  obtain ⟨c30, f30⟩ := B3.out.one
  cases hr : runsD d
  · gi_wp2_with fail
    refine ⟨trivial, ?_⟩
    gi_wp2_with fail
    refine ⟨.tuple #[.slice none 0 0, .int .i64 410], ?_, BytesErr.mk (l := []) (by simp [readD, hr]) (Sl.nil _ _ _ _) (hE.setCell2 (by omega) (by omega))⟩
    simp [results, Try.results28, go_sem, *]
  gi_wp2_with fail
  refine ⟨trivial, ?_⟩
  gi_wp2_with fail
  refine (callsIn_wide.2 (has_ok _ _ d i (H.out.keep hE))).mono ?_
  rintro e w2 ⟨rfl, hx⟩
  have hE2 := hE.trans hx; clear hE
  have K0 := Lib.hid (B0.out.keep hx); clear B0
  have K1 := Lib.hid (B1.out.keep hx); clear B1
  have K2 := Lib.hid (B2.out.keep hx); clear B2
  have K3 := Lib.hid (B3.out.keep hx); clear B3
  clear hx c00 c01 c02 c03 f00 f01 f02 f03 c10 f10 c20 f20 c30 f30
  obtain ⟨c00, c01, c02, c03, f00, f01, f02, f03⟩ := K0.out.four
  obtain ⟨c10, f10⟩ := K1.out.one
  obtain ⟨c20, f20⟩ := K2.out.one
  obtain ⟨c30, f30⟩ := K3.out.one
  cases hh : hasD d i
  · gi_wp2_with fail
    refine ⟨.tuple #[.slice none 0 0, .int .i64 410], ?_, BytesErr.mk (l := []) (by simp [readD, hh]) (Sl.nil _ _ _ _) (hE2.setCell2 (by omega) (by omega))⟩
    simp [results, Try.results28, go_sem, *]
  gi_wp2_with fail
  refine ⟨trivial, ?_⟩
  refine (backward_ok _ _ _ _).mono ?_
  rintro e w3 ⟨rfl, hw3⟩
  have hw3' := hw3.symm; subst hw3'; clear hw3
  gi_wp2_with fail
  have hpl : d.pending.length ≤ 4096 := by have := (okD_iff d).1 (by unfold runsD at hr; simp at hr; exact hr.1); omega
  have hE3 := hE2.alloc (.cells #[.slice a2 d.pending.length c2] 23)
  have L0 := Lib.hid (K0.out.past (.cells #[.slice a2 d.pending.length c2] 23)); clear K0
  have L1 := Lib.hid (K1.out.past (.cells #[.slice a2 d.pending.length c2] 23)); clear K1
  have L2 := Lib.hid (K2.out.past (.cells #[.slice a2 d.pending.length c2] 23)); clear K2
  have L3 := Lib.hid (K3.out.past (.cells #[.slice a2 d.pending.length c2] 23)); clear K3
  have L4 := Box.new w2 [.slice a2 d.pending.length c2] 23
  obtain ⟨cells, hcl, hseq⟩ := back_stops (S := S) w2.heap.size (.slice a2 d.pending.length c2) d.pending w (w2.alloc (.cells #[.slice a2 d.pending.length c2] 23)) hE3 (by omega) (by simp) L4.one.1 H2.out
  have HCL := Lib.hid hcl; clear hcl
  have HSEQ := Lib.hid hseq; clear hseq
  clear c00 c01 c02 c03 f00 f01 f02 f03 c10 f10 c20 f20 c30 f30 L4
  generalize hwL : w2.alloc (.cells #[.slice a2 d.pending.length c2] 23) = wL at *
  clear hwL
  refine wpIn_rangeFunc_ownH rfl (by decide) (gf := 80) (lb := #[.pointer (some ⟨w2.heap.size, 0, none⟩)]) rfl trivial (enters_of Try.func80 (by kernel_rfl) rfl) HSEQ.out belowK_t (belowK_b (Nat.le_refl _)) (Below.refl _ _) (fun _ => rfl)
    (fun pre W => (∀ p ∈ pre, Elt.at_ p ≠ i) ∧ Below wL.heap.size wL W)
    (fun cd pre W => (cd = .ret ∧ ∃ ini last, pre = ini ++ [last] ∧ (∀ p ∈ ini, Elt.at_ p ≠ i) ∧ Elt.at_ last = i ∧ W.cell? ⟨w.heap.size + 1 + 1, 0, none⟩ = some (.slice last.a last.n last.c) ∧ W.cell? ⟨w.heap.size + 1 + 1 + 1, 0, none⟩ = some (.int .i64 0)) ∧ Below w.heap.size w W)
    (OwnFrom.and (ownFrom_pure _ _) (ownFrom_below (Nat.le_refl _) (Nat.le_refl _)))
    (fun cd => OwnFrom.and (Own.from (fun s A B row hs hg hr => by obtain ⟨h0, ini, last, e1, e2, e3, e4, e5⟩ := hs; exact ⟨h0, ini, last, e1, e2, e3, cell_kept e4 hg hr, cell_kept e5 hg hr⟩) _) (ownFrom_below (Nat.le_refl _) hE3.size))
    ⟨by simp, Below.refl _ _⟩
    (fun x a' W => ∃ Bx, wL.heap.size ≤ Bx ∧ W.heap[Bx]? = some (.cells #[.int .i64 x.at_, .slice x.a x.n x.c] 76 (0, 0)) ∧ a' = { tmps := #[.agg #[.slice a d.sectors.length c, .slice a2 d.pending.length c2, .int .i64 d.left, .bool d.stopped], .int .i64 i, .pointer (some ⟨w.heap.size, 0, none⟩), .pointer (some ⟨w.heap.size + 1, 0, none⟩), .pointer (some ⟨w.heap.size + 1 + 1, 0, none⟩), .pointer (some ⟨w.heap.size + 1 + 1 + 1, 0, none⟩), undef, .pointer (some ⟨Bx, 0, none⟩), .agg #[.slice a d.sectors.length c, .slice a2 d.pending.length c2, .int .i64 d.left, .bool d.stopped], .bool true, .bool false, .bool false, .agg #[.slice a d.sectors.length c, .slice a2 d.pending.length c2, .int .i64 d.left, .bool d.stopped], .int .i64 i, .bool true, .bool false, .bool false, .pointer (some ⟨w.heap.size, 1, none⟩), .slice a2 d.pending.length c2, .func (.func 80) #[] #[.pointer (some ⟨w2.heap.size, 0, none⟩)], .int .i64 x.ix, .agg #[.int .i64 x.at_, .slice x.a x.n x.c], undef, undef, undef, undef, undef, undef, undef, undef, undef, undef, undef], defers := [] }) ?hAx ?assign ?body ?done ?stop
  case hAx =>
    rintro x a' s W W' row ⟨Bx, h1, h2, h3⟩ hg hr
    refine ⟨Bx, h1, (hg.block Bx (Array.getElem?_eq_some_iff.1 h2).1 (fun e => ?_)).trans h2, h3⟩
    obtain ⟨_, o, ho, hc⟩ := hr Bx e.symm
    rw [h2] at ho; cases ho; simp [Obj.isCells] at hc
  case assign =>
    rintro l pre x W K ⟨hp, hB⟩ hK
    simp only [Elt.enc]
    gi_wp2
    exact hK _ _ ((KeepsOthers.alloc _ _).from _) ((Below.refl _ W).alloc hB.size _) ⟨hp, hB.alloc hB.size _⟩ ⟨W.heap.size, hB.size, heap_alloc_new W _, rfl⟩
  case body =>
    rintro l pre x a' W hl ⟨r, hr0⟩ ⟨hp, hB⟩ ⟨Bx, hBx, bX, rfl⟩ hlt
    have hBE : Ext wL W := hB
    obtain ⟨c70, c71, f70, f71⟩ := (show Box W Bx [.int .i64 x.at_, .slice x.a x.n x.c] from ⟨76, bX⟩).two
    obtain ⟨c10, f10⟩ := (L1.out.keep hBE).one
    obtain ⟨c20, f20⟩ := (L2.out.keep hBE).one
    obtain ⟨c30, f30⟩ := (L3.out.keep hBE).one
    clear bX hr0
    by_cases hat : x.at_ = i
    · have hat' : (x.at_ == i) = true := by simp [hat]
      have HAT := Lib.hid hat; clear hat
      gi_wp2
      refine ⟨((KeepsOthers.setCell _ _ _).trans (KeepsOthers.setCell _ _ _)).from _, ⟨rfl, pre, x, rfl, hp, HAT.out, ?_, ?_⟩, (hE3.trans hBE).setCell2 (by omega) (by omega)⟩
      · go_simp
      · go_simp
    · have hat' : (x.at_ == i) = false := by simp [hat]
      have HAT := Lib.hid hat; clear hat
      gi_wp2
      exact ⟨KeepsFrom.refl _ _, Below.refl _ _, fun p hp' => (List.mem_append.1 hp').elim (hp p) (fun e => by simp at e; subst e; exact HAT.out), hB⟩
  case done =>
    rintro D ys W hD rfl ⟨hp, hB⟩ hK
    have hBE : Ext wL W := hB
    obtain ⟨c00, c01, c02, c03, f00, f01, f02, f03⟩ := (L0.out.keep hBE).four
    obtain ⟨c10, f10⟩ := (L1.out.keep hBE).one
    obtain ⟨c20, f20⟩ := (L2.out.keep hBE).one
    obtain ⟨c30, f30⟩ := (L3.out.keep hBE).one
    have hh' := hh
    unfold hasD at hh'
    simp at hh'
    obtain ⟨m, hm⟩ := Int.eq_ofNat_of_zero_le hh'.1
    have hm2' : m < d.sectors.length := by omega
    have hEW := hE3.trans hBE
    obtain ⟨bb, oo, vd, rfl, hbb, x0, hv⟩ := H1.out.elem hm2'
    have y0 := hEW.cell x0
    obtain ⟨a3, c3, rfl, hc3, hm3⟩ := hv.open
    have hrl : readL d i = d.sectors[m] := by
      rw [readL_miss d i (fun j hj => by
        have := hp (eltAt d.pending cells j) (by simp only [upTo, List.mem_map, List.mem_range]; exact ⟨j, hj, rfl⟩)
        simpa [eltAt, List.getD_eq_getElem?_getD, List.getElem?_eq_getElem (show d.pending.length - 1 - j < d.pending.length by omega)] using this)]
      rw [hm, Int.toNat_natCast, List.getD_eq_getElem?_getD, List.getElem?_eq_getElem hm2']; rfl
    have HRL := Lib.hid hrl; clear hrl
    have HV := Lib.hid hv; clear hv
    subst hm
    generalize d.sectors[m] = sx at *
    have hmi : (m : Int) < d.sectors.length := hh'.2
    have hmi0 : (0 : Int) ≤ m := hh'.1
    clear hh' hp
    gi_wp2
    have hK' := ((KeepsOthers.setCell W ⟨w.heap.size + 1 + 1, 0, none⟩ (.slice a3 sx.length c3)).trans (KeepsOthers.setCell _ ⟨w.heap.size + 1 + 1 + 1, 0, none⟩ (.int .i64 0))).same D _ hK rfl
    refine ⟨by simp, .inl ⟨_, _, rfl, run_takeDeferred hK', ?_⟩⟩
    have q1 : ((W.setCell ⟨w.heap.size + 1 + 1, 0, none⟩ (.slice a3 sx.length c3)).setCell ⟨w.heap.size + 1 + 1 + 1, 0, none⟩ (.int .i64 0)).cell? ⟨w.heap.size + 1 + 1, 0, none⟩ = some (.slice a3 sx.length c3) := by go_simp
    have q2 : ((W.setCell ⟨w.heap.size + 1 + 1, 0, none⟩ (.slice a3 sx.length c3)).setCell ⟨w.heap.size + 1 + 1 + 1, 0, none⟩ (.int .i64 0)).cell? ⟨w.heap.size + 1 + 1 + 1, 0, none⟩ = some (.int .i64 0) := by go_simp
    have r1 := cell_kept q1 (grownBy_putObj' _ D (.deferred none)) (fun r e => by cases e; exact ⟨_, hK', rfl⟩)
    have r2 := cell_kept q2 (grownBy_putObj' _ D (.deferred none)) (fun r e => by cases e; exact ⟨_, hK', rfl⟩)
    have hEf : Ext w (((W.setCell ⟨w.heap.size + 1 + 1, 0, none⟩ (.slice a3 sx.length c3)).setCell ⟨w.heap.size + 1 + 1 + 1, 0, none⟩ (.int .i64 0)).putObj D (.deferred none)) := (hEW.setCell2 (by omega) (by omega)).trans' (belowK_b (w := w) (Nat.le_refl _) _ D _ _ (Nat.le_trans hE3.size hD) hK' rfl rfl)
    refine ⟨.tuple #[.slice a3 sx.length c3, .int .i64 0], ?_, BytesErr.mk (l := sx) (by rw [← HRL.out]; simp [readD, hr, hh]) (HV.out.keep hEf) hEf⟩
    simp [results, Try.results28, go_sem, r1, r2]
  case stop =>
    rintro D cd pre W hD ⟨k, hk, rfl⟩ ⟨⟨rfl, ini, last, e1, e2, e3, hc1, hc2⟩, hB⟩ hK
    obtain ⟨k', rfl⟩ : ∃ k', k = k' + 1 := by
      cases k with
      | zero => simp [upTo] at e1
      | succ k' => exact ⟨k', rfl⟩
    rw [upTo_succ] at e1
    obtain ⟨rfl, e5⟩ := List.append_inj' e1 rfl
    obtain rfl : eltAt d.pending cells k' = last := by simpa using e5
    have hq : d.pending.length - 1 - k' < d.pending.length := by omega
    have hrl : readL d i = d.pending[d.pending.length - 1 - k'].data := by
      refine readL_hit d i k' (by omega) (fun j hj => ?_) ?_
      · have := e2 (eltAt d.pending cells j) (by simp only [upTo, List.mem_map, List.mem_range]; exact ⟨j, hj, rfl⟩)
        simpa [eltAt, List.getD_eq_getElem?_getD, List.getElem?_eq_getElem (show d.pending.length - 1 - j < d.pending.length by omega)] using this
      · simpa [eltAt, List.getD_eq_getElem?_getD, List.getElem?_eq_getElem hq] using e3
    have hv := HCL.out _ hq
    clear e2 e3 e1 e5
    have r1 := cell_kept hc1 (grownBy_putObj' _ D (.deferred none)) (fun r e => by cases e; exact ⟨_, hK, rfl⟩)
    have r2 := cell_kept hc2 (grownBy_putObj' _ D (.deferred none)) (fun r e => by cases e; exact ⟨_, hK, rfl⟩)
    have hEf : Ext w (W.putObj D (.deferred none)) := Ext.trans' hB (belowK_b (w := w) (Nat.le_refl _) _ D _ _ (Nat.le_trans hE3.size hD) hK rfl rfl)
    gi_wp2
    refine ⟨by simp, .inl ⟨_, _, rfl, run_takeDeferred hK, ?_⟩⟩
    refine ⟨.tuple #[.slice (eltAt d.pending cells k').a (eltAt d.pending cells k').n (eltAt d.pending cells k').c, .int .i64 0], ?_, BytesErr.mk (l := d.pending[d.pending.length - 1 - k'].data) (by rw [← hrl]; simp [readD, hr, hh]) (hv.keep hEf) hEf⟩
    simp [results, Try.results28, go_sem, r1, r2]
end Go.Proofs.Ytpciankfpagnhaa
