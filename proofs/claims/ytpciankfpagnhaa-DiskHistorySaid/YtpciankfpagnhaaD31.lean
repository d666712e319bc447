/- The law DiskHistory returns true on every input. -/
import Derived.Test.YtpciankfpagnhaaD24
import Derived.Test.YtpciankfpagnhaaD31a
import Derived.Test.YtpciankfpagnhaaD31b
import Derived.Deep.CutBlock
import Derived.IntWalk
namespace Go.Proofs.Ytpciankfpagnhaa
open Go.RowKit

/-- One block. -/
def Oe (g k : Nat) : Prop := k = g
/-- Four blocks. -/
def Fo (a b c d k : Nat) : Prop := k = a ∨ k = b ∨ k = c ∨ k = d
theorem wrap4 (a : Ac) : IntKind.i64.wrap ((a.at_.toNat : Int).tmod 4) = (at4 a : Int) := by
  have := at4_lt a
  rw [tmod4, IntWalk.i64_in _ (by omega)]
theorem four_of (f : List UInt8) (h : f.length = 4) : ∃ a b c d, f = [a, b, c, d] := by
  match f, h with
  | [a, b, c, d], _ => exact ⟨a, b, c, d, rfl⟩
theorem Mem.mono {S S' : Nat → Prop} {w w' : World} (h : Mem S w w') (hS : ∀ k, S k → S' k) : Mem S' w w' := ⟨h.size, fun k hk hs => h.block k hk (fun q => hs (hS k q))⟩

/-- Two blocks, once more. -/
def Two2 (a b k : Nat) : Prop := k = a ∨ k = b
/-- All blocks below n but a slice's own. -/
def Al (n : Nat) (v : Value) (k : Nat) : Prop := k < n ∧ v.ownBlock ≠ some k
theorem osl_re {base : Nat} {e : TypeId} {S S' : Nat → Prop} {w : World} {v : Value} {xs : List Ac} (h : OSl base e 3 eAc S w v xs) (hS : ∀ g, v.ownBlock = some g → ¬ S' g) : OSl base e 3 eAc S' w v xs := by
  obtain ⟨cells, hown, _, hel⟩ := h
  exact ⟨cells, hown, hS, hel⟩
/-- One act, written out. -/
theorem ac_lit {S : Nat → Prop} {w : World} {ac : Ac} {sy : Bool} {t : TypeId} (hsy : ac.sync = sy) (hS : ¬ S w.heap.size) :
    Acs S (w.alloc (.cells #[.bool sy, .int .u8 (ac.at_.toNat : Int), .int .u8 (ac.byte.toNat : Int)] t)) (.slice (some ⟨w.heap.size, 0, none⟩) 1 1) [ac] := by
  subst hsy
  refine ⟨_, 1, [.bool ac.sync, .int .u8 (ac.at_.toNat : Int), .int .u8 (ac.byte.toNat : Int)], rfl, Nat.le_refl _, by decide, rfl, ?_, .inr ⟨w.heap.size, 0, rfl, ⟨by simp, hS⟩, ?_⟩⟩
  · intro j x hj
    match j with
    | 0 => simp at hj; subst hj; rfl
    | (n + 1) => simp at hj
  · intro j u hj
    rw [Nat.zero_add, World.cell?_alloc_at _ _ _ _ rfl]
    simpa using hj
theorem atAc : AT Try.prog 43 46 3 3 := at_mk (z := .agg #[.bool false, .int .u8 0, .int .u8 0]) (by kernel_rfl) (by kernel_rfl) rfl (by decide)
theorem disk_grown {S : Nat → Prop} {w0 w w' : World} {v v' vd : Value} {d : Dk} (hx : Ext w0 w) (hg : w.grownBy w' v.ownBlock) (h : Disk (Wo S v) w0 vd d) (hv : ∀ k, v'.ownBlock = some k → v.ownBlock = some k ∨ w0.heap.size ≤ k) : Disk (Wo S v') w' vd d := by
  have h1 : Disk (fun k => Wo S v k ∨ Wo S v' k) w0 vd d := h.more (fun k hk => by
    rcases hk with hk | hk
    · exact .inl hk
    · rcases hk with hk | hk
      · exact .inl (.inl hk)
      · rcases hv k hk with h | h
        · exact .inl (.inr h)
        · exact .inr h)
  have hm : Mem (fun k => Wo S v k ∨ Wo S v' k) w0 w' := (hx.mem _).trans ⟨hg.size, fun k hk hs => hg.block k hk (fun e => hs (.inl (.inr e.symm)))⟩
  exact (h1.keepM hm).more (fun k hk => .inl (.inr hk))

set_option maxRecDepth 100000 in
set_option maxHeartbeats 4000000 in
theorem diskHistory_ok (w : World) (vs : Value) (l : List Ac) (left : UInt8) (hs : Acs No w vs l) :
    Calls Try.prog 6 #[vs, .int .u8 (left.toNat : Int)] w fun e w' => e = .returned (.bool true) ∧ Ext w w' := by
  obtain ⟨a3, c3, rfl, hc3, hm3⟩ := hs.open
  have HL := Lib.hid hs; clear hs
  have hleft : left.toNat < 256 := left.toNat_lt
  go_enter Try.func6, Try.ntmps6
  go_wp2_with fail
  refine (sane41_ok _).mono ?_
  rintro e w1 ⟨rfl, hE⟩
  by_cases hl : 40 < l.length
  · have hl' : (40 : Int) < (l.length : Int) := by omega
    go_wp2_with fail
    go_ret
    exact ⟨rfl, hE⟩
  have hl' : ¬ (40 : Int) < (l.length : Int) := by omega
  go_wp2_with fail
  obtain ⟨hnew, hstop⟩ := hist_start left.toNat (by omega)
  have k0 := new_ok (S := No) w1 4 No.lt
  rw [hnew] at k0
  refine k0.mono ?_
  clear k0 hnew
  rintro e w2 ⟨v2, rfl, hd2, hx2⟩
  obtain ⟨a5, c5, a6, c6, rfl, -, -, -, -, -, -⟩ := hd2.open
  have HSTOP := Lib.hid hstop; clear hstop
  have hd2' : Disk (Oe w2.heap.size) w2 _ _ := hd2.more (fun k hk => .inr (by unfold Oe at hk; omega))
  have hx3 := hx2.alloc (.cells (dkCells a5 c5 a6 c6 ⟨secs [0, 0, 0, 0] [0, 0, 0, 0], [], -1, false⟩).toArray 25)
  have B5 := Lib.hid (Box.new w2 (dkCells a5 c5 a6 c6 ⟨secs [0, 0, 0, 0] [0, 0, 0, 0], [], -1, false⟩) 25)
  have D5 := Lib.hid (hd2'.keep ((Ext.refl w2).alloc (.cells (dkCells a5 c5 a6 c6 ⟨secs [0, 0, 0, 0] [0, 0, 0, 0], [], -1, false⟩).toArray 25)))
  have hE3 := hE.trans hx3
  have hg5 : w.heap.size ≤ w2.heap.size := (hE.trans hx2).size
  clear hd2 hd2' hx2 hx3 hE
  go_upto_region 6 with fail
  generalize w2.alloc (.cells (dkCells a5 c5 a6 c6 ⟨secs [0, 0, 0, 0] [0, 0, 0, 0], [], -1, false⟩).toArray 25) = w3 at *
  generalize w2.heap.size = g5 at *
  obtain ⟨p0, p1, p2, p3, -, -, -, -⟩ := B5.out.four
  go_wp2_with fail
  have k0 := stop_ok (S := Oe g5) w3 _ ⟨secs [0, 0, 0, 0] [0, 0, 0, 0], [], -1, false⟩ left.toNat D5.out
  rw [HSTOP.out] at k0
  refine k0.mono ?_
  clear k0 p0 p1 p2 p3 D5 HSTOP
  rintro e w4 ⟨v4, rfl, hd4, hx4⟩
  obtain ⟨a7, c7, a8, c8, rfl, -, -, -, -, -, -⟩ := hd4.open
  obtain ⟨p0, p1, p2, p3, q0, q1, q2, q3⟩ := (B5.out.keep hx4).four
  have h5s : g5 < w4.heap.size := (B5.out.keep hx4).lt
  go_upto_region 7 with fail
  generalize hW : World.setCell _ _ _ = w5
  obtain ⟨hb5, ho5⟩ := box_set4 (B5.out.keep hx4) hW
  clear hW p0 p1 p2 p3 q0 q1 q2 q3
  have hE5 := ho5.ext (hE3.trans hx4) hg5
  have C5 := Lib.hid hb5; clear hb5
  have E5 := Lib.hid (hd4.keepM (ho5.mem rfl)); clear hd4 ho5 hx4 hE3 B5 h5s
  go_upto_region 12 with fail
  have hx6 : Ext w5 ((((w5.alloc (.cells #[.int .u8 0, .int .u8 0, .int .u8 0, .int .u8 0] 44)).alloc (.cells #[.int .u8 0, .int .u8 0, .int .u8 0, .int .u8 0] 44)).alloc (.cells #[.int .u8 0, .int .u8 0, .int .u8 0, .int .u8 0] 44)).alloc (.cells #[] 46)) := ((((Ext.refl w5).alloc _).alloc _).alloc _).alloc _
  have F8 := Lib.hid ((((Box.new w5 [.int .u8 0, .int .u8 0, .int .u8 0, .int .u8 0] 44).past (.cells #[.int .u8 0, .int .u8 0, .int .u8 0, .int .u8 0] 44)).past (.cells #[.int .u8 0, .int .u8 0, .int .u8 0, .int .u8 0] 44)).past (.cells #[] 46))
  have F9 := Lib.hid (((Box.at (w := w5.alloc (.cells #[.int .u8 0, .int .u8 0, .int .u8 0, .int .u8 0] 44)) (cs := [.int .u8 0, .int .u8 0, .int .u8 0, .int .u8 0]) (t := 44) (b := w5.heap.size + 1) (by simp)).past (.cells #[.int .u8 0, .int .u8 0, .int .u8 0, .int .u8 0] 44)).past (.cells #[] 46))
  have F10 := Lib.hid ((Box.at (w := (w5.alloc (.cells #[.int .u8 0, .int .u8 0, .int .u8 0, .int .u8 0] 44)).alloc (.cells #[.int .u8 0, .int .u8 0, .int .u8 0, .int .u8 0] 44)) (cs := [.int .u8 0, .int .u8 0, .int .u8 0, .int .u8 0]) (t := 44) (b := w5.heap.size + 1 + 1) (by simp)).past (.cells #[] 46))
  have hrow : ((((w5.alloc (.cells #[.int .u8 0, .int .u8 0, .int .u8 0, .int .u8 0] 44)).alloc (.cells #[.int .u8 0, .int .u8 0, .int .u8 0, .int .u8 0] 44)).alloc (.cells #[.int .u8 0, .int .u8 0, .int .u8 0, .int .u8 0] 44)).alloc (.cells #[] 46)).heap[w5.heap.size + 1 + 1 + 1]? = some (.cells #[] 46 (0, 0)) := by
    have := heap_alloc_new (((w5.alloc (.cells #[.int .u8 0, .int .u8 0, .int .u8 0, .int .u8 0] 44)).alloc (.cells #[.int .u8 0, .int .u8 0, .int .u8 0, .int .u8 0] 44)).alloc (.cells #[.int .u8 0, .int .u8 0, .int .u8 0, .int .u8 0] 44)) (.cells #[] 46)
    simpa using this
  have hg58 : g5 < w5.heap.size := C5.out.lt
  have HROW := Lib.hid hrow; clear hrow
  have hmo : ∀ k, Fo g5 w5.heap.size (w5.heap.size + 1) (w5.heap.size + 1 + 1) k → Oe g5 k ∨ w5.heap.size ≤ k := fun k hk => by
    unfold Fo at hk; unfold Oe
    rcases hk with h | h | h | h
    · exact .inl h
    · exact .inr (by omega)
    · exact .inr (by omega)
    · exact .inr (by omega)
  have ho6 : OSl w5.heap.size 46 3 eAc (Fo g5 w5.heap.size (w5.heap.size + 1) (w5.heap.size + 1 + 1)) ((((w5.alloc (.cells #[.int .u8 0, .int .u8 0, .int .u8 0, .int .u8 0] 44)).alloc (.cells #[.int .u8 0, .int .u8 0, .int .u8 0, .int .u8 0] 44)).alloc (.cells #[.int .u8 0, .int .u8 0, .int .u8 0, .int .u8 0] 44)).alloc (.cells #[] 46)) (.slice (some ⟨w5.heap.size + 1 + 1 + 1, 0, none⟩) 0 0) [] := osl_row0 HROW.out (by omega) (fun h => by unfold Fo at h; omega)
  have E6 := Lib.hid ((E5.out.more (S' := Wo (Fo g5 w5.heap.size (w5.heap.size + 1) (w5.heap.size + 1 + 1)) (.slice (some ⟨w5.heap.size + 1 + 1 + 1, 0, none⟩) 0 0)) (fun k hk => by
    rcases hk with hk | hk
    · exact hmo k hk
    · simp [Value.ownBlock] at hk; exact .inr (by omega))).keepM (hx6.mem _))
  have O6 := Lib.hid ho6; clear ho6 hmo HROW E5
  have C6 := Lib.hid (C5.out.keep hx6); clear C5
  have hE6 := hE5.trans hx6; clear hE5
  have hsz6 : (((((w5.alloc (.cells #[.int .u8 0, .int .u8 0, .int .u8 0, .int .u8 0] 44)).alloc (.cells #[.int .u8 0, .int .u8 0, .int .u8 0, .int .u8 0] 44)).alloc (.cells #[.int .u8 0, .int .u8 0, .int .u8 0, .int .u8 0] 44)).alloc (.cells #[] 46))).heap.size = w5.heap.size + 1 + 1 + 1 + 1 := by simp
  have hS6 : ∀ k, Fo g5 w5.heap.size (w5.heap.size + 1) (w5.heap.size + 1 + 1) k → k < (((((w5.alloc (.cells #[.int .u8 0, .int .u8 0, .int .u8 0, .int .u8 0] 44)).alloc (.cells #[.int .u8 0, .int .u8 0, .int .u8 0, .int .u8 0] 44)).alloc (.cells #[.int .u8 0, .int .u8 0, .int .u8 0, .int .u8 0] 44)).alloc (.cells #[] 46))).heap.size := fun k hk => by rw [hsz6]; unfold Fo at hk; omega
  have HS6 := Lib.hid hS6; clear hS6 hsz6
  have hw58 : w.heap.size ≤ w5.heap.size := by omega
  clear hx6
  generalize ((((w5.alloc (.cells #[.int .u8 0, .int .u8 0, .int .u8 0, .int .u8 0] 44)).alloc (.cells #[.int .u8 0, .int .u8 0, .int .u8 0, .int .u8 0] 44)).alloc (.cells #[.int .u8 0, .int .u8 0, .int .u8 0, .int .u8 0] 44)).alloc (.cells #[] 46)) = w6 at *
  generalize hgW : w5.heap.size + 1 + 1 + 1 = gW at *
  generalize hg10 : w5.heap.size + 1 + 1 = g10 at *
  generalize hg9 : w5.heap.size + 1 = g9 at *
  generalize hg8 : w5.heap.size = g8 at *
  have n1 : g5 < g8 := by omega
  have n2 : g9 = g8 + 1 := by omega
  have n3 : g10 = g8 + 2 := by omega
  have N2 := Lib.hid n2; clear n2
  have N3 := Lib.hid n3; clear n3
  clear hgW hg10 hg9 hg8
  go_wp2_with fail
  go_loopw [11, 12, 13] (fun tw tr ti wr => ∃ (k : Nat) (f0 f1 f2 f3 l0 l1 l2 l3 : UInt8) (W : List Ac) (r : Nat) (a5 : Option Addr) (c5 : Nat) (a6 : Option Addr) (c6 : Nat), k ≤ l.length ∧ ti = .int .i64 (k : Int) ∧ tr = .int .i64 (r : Int) ∧ W.length ≤ k ∧ r ≤ 255 ∧ Hid ([l0, l1, l2, l3] = upd [f0, f1, f2, f3] W) ∧
      Hid (Box wr g5 (dkCells a5 c5 a6 c6 (hist [f0, f1, f2, f3] W r))) ∧ Hid (Disk (Wo (Fo g5 g8 g9 g10) tw) wr (.agg (dkCells a5 c5 a6 c6 (hist [f0, f1, f2, f3] W r)).toArray) (hist [f0, f1, f2, f3] W r)) ∧ Hid (OSl g8 46 3 eAc (Fo g5 g8 g9 g10) wr tw W) ∧
      Hid (Box wr g8 [.int .u8 (l0.toNat : Int), .int .u8 (l1.toNat : Int), .int .u8 (l2.toNat : Int), .int .u8 (l3.toNat : Int)]) ∧ Hid (Box wr g9 [.int .u8 (f0.toNat : Int), .int .u8 (f1.toNat : Int), .int .u8 (f2.toNat : Int), .int .u8 (f3.toNat : Int)]) ∧ Hid (Box wr g10 [.int .u8 (f0.toNat : Int), .int .u8 (f1.toNat : Int), .int .u8 (f2.toNat : Int), .int .u8 (f3.toNat : Int)]) ∧ Ext w wr) (fun _ _ i _ => l.length - (intOf i).toNat)
  case atStart =>
    refine ⟨0, 0, 0, 0, 0, 0, 0, 0, 0, [], left.toNat, a7, c7, a8, c8, Nat.zero_le _, rfl, rfl, Nat.le_refl _, by omega, Lib.hid rfl, C6, E6, O6, F8, F9, F10, hE6⟩
  case round =>
    clear C6 E6 O6 F8 F9 F10 hE6
    obtain ⟨k, f0, f1, f2, f3, l0, l1, l2, l3, W, r, b5, d5, b6, d6, hk, rfl, rfl, hWk, hr, HU, R5, RD, RO, R8, R9, R10, hEr⟩ := hrel
    obtain ⟨aw, cw, rfl, hcw, hmw⟩ := (RO.out.sl etAc).open
    by_cases hlt : k < l.length
    · obtain ⟨bb, oo, rfl, hbb, y0, y1, y2⟩ := (Acs.keep HL.out hEr).elem hlt
      generalize l[k] = ac at *
      have hi1 : (k : Int) < l.length := by omega
      have hi0 : (0 : Int) ≤ k := by omega
      have hSr : ∀ q, Wo (Fo g5 g8 g9 g10) (.slice aw W.length cw) q → q < wr.heap.size := fun q hq => by
        rcases hq with hq | hq
        · rcases hq with h | h | h | h
          · subst h; exact R5.out.lt
          · subst h; exact R8.out.lt
          · subst h; exact R9.out.lt
          · subst h; exact R10.out.lt
        · exact (RO.out.block q hq).2
      have HSr := Lib.hid hSr; clear hSr
      have hat : ac.at_.toNat < 256 := ac.at_.toNat_lt
      have hby : ac.byte.toNat < 256 := ac.byte.toNat_lt
      cases hsy : ac.sync
      · rw [hsy] at y0
        have hx7 : Ext wr (wr.alloc (.cells #[.bool false, .int .u8 (ac.at_.toNat : Int), .int .u8 (ac.byte.toNat : Int)] 46)) := (Ext.refl wr).alloc _
        have B14 := Lib.hid (Box.new wr [.bool false, .int .u8 (ac.at_.toNat : Int), .int .u8 (ac.byte.toNat : Int)] 46)
        have A5 := Lib.hid (R5.out.keep hx7)
        have AD := Lib.hid (RD.out.keep hx7)
        have AO := Lib.hid (RO.out.keep etAc hx7)
        have A8 := Lib.hid (R8.out.keep hx7)
        have A9 := Lib.hid (R9.out.keep hx7)
        have A10 := Lib.hid (R10.out.keep hx7)
        have HS7 := Lib.hid (fun q hq => Nat.lt_of_lt_of_le (HSr.out q hq) hx7.size)
        have hE7 := hEr.trans hx7
        have hr8 : g10 < wr.heap.size := R10.out.lt
        go_upto_region 17 with fail
        clear R5 RD RO R8 R9 R10 hEr HSr y0 y1 y2 hx7
        generalize wr.alloc (.cells #[.bool false, .int .u8 (ac.at_.toNat : Int), .int .u8 (ac.byte.toNat : Int)] 46) = w7 at *
        generalize wr.heap.size = g14 at *
        obtain ⟨z0, z1, z2, -, -, -⟩ := B14.out.three
        have hz := hist_write (f := [f0, f1, f2, f3]) (l := W) (r := r) rfl (by omega) hr ac
        rw [← wrap4 ac] at hz
        refine reg6_17 (S := Wo (Fo g5 g8 g9 g10) (.slice aw W.length cw)) _ _ _ _ _ _ _ _ _ _ _ _ _ _ _ _ _ _ _ _ _ _ _ _ _ _ _ _ _ _ _ _ _ _ _ _ _ _ _ _ _ _ _ _ _ _ _ _ _ _ _ _ _ _ _ _ _ _ _ _ _ _ _ _ _ _ _ _ _ _ _ _ _ _ _ _ _ _ _ _ _ _ _ _ _ _ _ _ _ _ _ _ _ _ _ _ _ _ _ _ _ _ _ _ _ _ _ _ _ _ _ _ _ _ _ _ _ _ _ _ _ _ _ _ _ _ _ _ _ _ _ _ _ _ _ _ _ _ _ _ _ _ _ _ _ _ _ _ _ _ _ _ _ _ _ _ _ _ _ _ _ w7 g5 g14 b5 d5 b6 d6 (hist [f0, f1, f2, f3] W r) (hist [f0, f1, f2, f3] (W ++ [ac]) r) ac A5.out AD.out HS7.out z1 z2 hz ?_
        clear hz z0 z1 z2
        have HSY := Lib.hid hsy; clear hsy
        intro u60 u61 u62 u63 u64 u65 u66 u67 u68 u59 u69 u70 g15 a7' c7' a8' c8' w8 hg15 hb15 hd15 hx8
        dsimp only
        have T15 := Lib.hid hb15; clear hb15
        have TD := Lib.hid hd15; clear hd15
        have T5 := Lib.hid (A5.out.keep hx8)
        have TO := Lib.hid (AO.out.keep etAc hx8)
        have T8 := Lib.hid (A8.out.keep hx8)
        have T9 := Lib.hid (A9.out.keep hx8)
        have T10 := Lib.hid (A10.out.keep hx8)
        have T14 := Lib.hid (B14.out.keep hx8)
        have hE8 := hE7.trans hx8
        clear A5 AD AO A8 A9 A10 B14 hE7 hx8 HS7
        generalize hZ : hist [f0, f1, f2, f3] (W ++ [ac]) r = Z at *
        have HZ := Lib.hid hZ; clear hZ
        obtain ⟨z0, z1, z2, z3, -, -, -, -⟩ := T15.out.four
        obtain ⟨p0, p1, p2, p3, q0, q1, q2, q3⟩ := T5.out.four
        have h5s : g5 < w8.heap.size := T5.out.lt
        go_upto_region 21 with fail
        generalize hW : World.setCell _ _ _ = w9
        obtain ⟨hb9, ho9⟩ := box_set4 T5.out hW
        clear hW z0 z1 z2 z3 p0 p1 p2 p3 q0 q1 q2 q3 h5s T5 T15
        have n2 := N2.out
        have n3 := N3.out
        have U5 := Lib.hid hb9; clear hb9
        have UD := Lib.hid (TD.out.keepM (ho9.mem (.inl (.inl rfl)))); clear TD
        have UO := Lib.hid (TO.out.keepM etAc (ho9.mem (.inl rfl))); clear TO
        have U8 := Lib.hid (ho9.box T8.out (by omega)); clear T8
        have U9 := Lib.hid (ho9.box T9.out (by omega)); clear T9
        have U10 := Lib.hid (ho9.box T10.out (by omega)); clear T10
        have U14 := Lib.hid (ho9.box T14.out (by omega)); clear T14
        have hE9 := ho9.ext hE8 hg5
        clear ho9 hE8
        obtain ⟨z0, z1, z2, -, -, -⟩ := U14.out.three
        have hj4 : ac.at_.toNat % 4 < 4 := Nat.mod_lt _ (by decide)
        obtain ⟨x0, hx0⟩ : ∃ x0, [Value.int .u8 (l0.toNat : Int), .int .u8 (l1.toNat : Int), .int .u8 (l2.toNat : Int), .int .u8 (l3.toNat : Int)][ac.at_.toNat % 4]? = some x0 := ⟨_, List.getElem?_eq_getElem hj4⟩
        obtain ⟨hcell, hfr⟩ := U8.out.own (ac.at_.toNat % 4) x0 hx0
        clear hx0 n2 n3
        have hz8 : g8 < w9.heap.size := U8.out.lt
        go_upto_region 22 with fail
        generalize hW : World.setCell _ _ _ = w10
        obtain ⟨hb10, ho10⟩ := box_set1 U8.out hW
        clear hW hcell hfr z0 z1 z2 hz8
        obtain ⟨m0, m1, m2, m3, hm⟩ := four_of (([l0, l1, l2, l3] : List UInt8).set (ac.at_.toNat % 4) ac.byte) (by simp)
        have hbm : [Value.int .u8 (l0.toNat : Int), .int .u8 (l1.toNat : Int), .int .u8 (l2.toNat : Int), .int .u8 (l3.toNat : Int)].set (ac.at_.toNat % 4) (.int .u8 (ac.byte.toNat : Int)) = [.int .u8 (m0.toNat : Int), .int .u8 (m1.toNat : Int), .int .u8 (m2.toNat : Int), .int .u8 (m3.toNat : Int)] := by
          have := congrArg bv hm
          unfold bv at this
          rw [List.map_set] at this
          exact this
        rw [hbm] at hb10
        clear hbm
        have HM : Hid ([m0, m1, m2, m3] = upd [f0, f1, f2, f3] (W ++ [ac])) := Lib.hid (by rw [← hm, HU.out, upd_snoc]; rfl)
        clear hm
        have n2 := N2.out
        have n3 := N3.out
        have V8 := Lib.hid hb10; clear hb10
        have V5 := Lib.hid (ho10.box U5.out (by omega)); clear U5
        have VD := Lib.hid (UD.out.keepM (ho10.mem (.inl (.inr (.inl rfl))))); clear UD
        have VO := Lib.hid (UO.out.keepM etAc (ho10.mem (.inr (.inl rfl)))); clear UO
        have V9 := Lib.hid (ho10.box U9.out (by omega)); clear U9 U8
        have V10 := Lib.hid (ho10.box U10.out (by omega)); clear U10
        have V14 := Lib.hid (ho10.box U14.out (by omega)); clear U14
        have hE10 := ho10.ext hE9 (by omega)
        clear ho10 hE9 n2 n3
        obtain ⟨z0, z1, z2, -, -, -⟩ := V14.out.three
        have hap : OSl g8 46 3 eAc (Al w10.heap.size (.slice aw W.length cw)) (w10.alloc (.cells #[.bool false, .int .u8 (ac.at_.toNat : Int), .int .u8 (ac.byte.toNat : Int)] 46)) (.slice aw W.length cw) W := (osl_re VO.out (fun g hg h => h.2 hg)).keep etAc ((Ext.refl _).alloc _)
        have HAP := Lib.hid hap; clear hap
        have hlt2 : Acs (Wo (Al w10.heap.size (.slice aw W.length cw)) (.slice aw W.length cw)) (w10.alloc (.cells #[.bool false, .int .u8 (ac.at_.toNat : Int), .int .u8 (ac.byte.toNat : Int)] 46)) (.slice (some ⟨w10.heap.size, 0, none⟩) 1 1) [ac] := ac_lit HSY.out (fun h => by
          rcases h with h | h
          · exact Nat.lt_irrefl _ h.1
          · have := (VO.out.block _ h).2; omega)
        have HLT2 := Lib.hid hlt2; clear hlt2
        have hg8w : g8 ≤ w10.heap.size := Nat.le_of_lt V8.out.lt
        go_wp2_with (at_builtin; refine wpList_append_osl (S := Al w10.heap.size (.slice aw W.length cw)) atAc etAc rfl _ _ rfl g8 _ _ W [ac] rfl rfl HAP.out HLT2.out ?h1 ?h2 ?h3 ?h4 ?_)
        case h1 => intro q hq; simp; exact Nat.lt_succ_of_lt hq.1
        case h2 => simp; omega
        case h3 => simp; omega
        case h4 => simp; omega
        intro v11 w11 hv11 hg11
        clear z0 z1 z2 HAP HLT2
        have hxa : Ext w10 (w10.alloc (.cells #[.bool false, .int .u8 (ac.at_.toNat : Int), .int .u8 (ac.byte.toNat : Int)] 46)) := (Ext.refl w10).alloc _
        have hvo : ∀ q, v11.ownBlock = some q → (Value.slice aw W.length cw).ownBlock = some q ∨ w10.heap.size ≤ q := fun q hq => by
          have h1 := hv11.notS q hq
          unfold Al at h1
          rcases Nat.lt_or_ge q w10.heap.size with h | h
          · left
            exact Classical.byContradiction fun h2 => h1 ⟨h, h2⟩
          · exact .inr h
        have hlt10 : ∀ q, Fo g5 g8 g9 g10 q → q < w10.heap.size := fun q hq => by
          rcases hq with h | h | h | h
          · subst h; exact V5.out.lt
          · subst h; exact V8.out.lt
          · subst h; exact V9.out.lt
          · subst h; exact V10.out.lt
        have hno := VO.out.notS
        have X5 := Lib.hid ((V5.out.keep hxa).grown hg11 (fun e => hno g5 e (.inl rfl)))
        have X8 := Lib.hid ((V8.out.keep hxa).grown hg11 (fun e => hno g8 e (.inr (.inl rfl))))
        have X9 := Lib.hid ((V9.out.keep hxa).grown hg11 (fun e => hno g9 e (.inr (.inr (.inl rfl)))))
        have X10 := Lib.hid ((V10.out.keep hxa).grown hg11 (fun e => hno g10 e (.inr (.inr (.inr rfl)))))
        have XD := Lib.hid (disk_grown hxa hg11 VD.out hvo)
        have XO := Lib.hid (osl_re (S' := Fo g5 g8 g9 g10) hv11 (fun q hq hF => by
          rcases hvo q hq with h | h
          · exact hno q h hF
          · have := hlt10 q hF; omega))
        have hE11 : Ext w w11 := (hE10.alloc _).grown hg11 (fun q hq => by have := (VO.out.block q hq).1; omega)
        clear V5 V8 V9 V10 VD VO V14 hE10 hxa hvo hno hlt10 hv11 hg11
        obtain ⟨aw', cw', rfl, hcw', hmw'⟩ := (XO.out.sl etAc).open
        have hlen : (W ++ [ac]).length = W.length + 1 := by simp
        rw [hlen] at XD XO hcw' ⊢
        clear hlen
        obtain ⟨p0, p1, p2, p3, -, -, -, -⟩ := X5.out.four
        obtain ⟨z0, z1, z2, z3, -, -, -, -⟩ := X8.out.four
        have hho : Holds Z [m0, m1, m2, m3] [m0, m1, m2, m3] := by
          rw [← HZ.out, HM.out]
          exact hist_holds rfl (by simp; omega) hr
        have HHO := Lib.hid hho; clear hho
        go_wp2_with fail
        refine (holds_ok w11 _ Z m0 m1 m2 m3 m0 m1 m2 m3 XD.out HHO.out).mono ?_
        rintro e w12 ⟨rfl, hx12⟩
        clear p0 p1 p2 p3 z0 z1 z2 z3
        have Y5 := Lib.hid (X5.out.keep hx12)
        have YD := Lib.hid (XD.out.keep hx12)
        rw [← HZ.out] at Y5 YD
        clear HHO HZ X5 XD
        have hE12 := hE11.trans hx12
        have Y8 := Lib.hid (X8.out.keep hx12)
        have Y9 := Lib.hid (X9.out.keep hx12)
        have Y10 := Lib.hid (X10.out.keep hx12)
        have YO := Lib.hid (XO.out.keep etAc hx12)
        clear X8 X9 X10 XO hE11 hx12
        go_wp2_with fail
        go_roundw
        case rel => exact ⟨k + 1, f0, f1, f2, f3, m0, m1, m2, m3, W ++ [ac], r, a7', c7', a8', c8', by omega, by go_num, rfl, by simp; omega, hr, HM, Y5, YD, YO, Y8, Y9, Y10, hE12⟩
        case measure => simp [intOf]; omega
      · rw [hsy] at y0
        have hx7 : Ext wr (wr.alloc (.cells #[.bool true, .int .u8 (ac.at_.toNat : Int), .int .u8 (ac.byte.toNat : Int)] 46)) := (Ext.refl wr).alloc _
        have A5 := Lib.hid (R5.out.keep hx7)
        have AD := Lib.hid (RD.out.keep hx7)
        have AO := Lib.hid (RO.out.keep etAc hx7)
        have A8 := Lib.hid (R8.out.keep hx7)
        have A9 := Lib.hid (R9.out.keep hx7)
        have A10 := Lib.hid (R10.out.keep hx7)
        have HS7 := Lib.hid (fun q hq => Nat.lt_of_lt_of_le (HSr.out q hq) hx7.size)
        have hE7 := hEr.trans hx7
        have hr8 : g10 < wr.heap.size := R10.out.lt
        go_upto_region 23 with fail
        clear R5 RD RO R8 R9 R10 hEr HSr y0 y1 y2 hx7 hsy
        generalize wr.alloc (.cells #[.bool true, .int .u8 (ac.at_.toNat : Int), .int .u8 (ac.byte.toNat : Int)] 46) = w7 at *
        generalize wr.heap.size = g14 at *
        obtain ⟨p0, p1, p2, p3, -, -, -, -⟩ := A5.out.four
        go_wp2_with fail
        have k0 := sync_ok (S := Wo (Fo g5 g8 g9 g10) (.slice aw W.length cw)) w7 _ (hist [f0, f1, f2, f3] W r) AD.out HS7.out
        have kst : r < W.length → syncD (hist [f0, f1, f2, f3] W r) = (⟨secs (upd [f0, f1, f2, f3] (W.take (r + 1))) (upd [f0, f1, f2, f3] (W.take r)), [], 0, true⟩, 410) := fun h => hist_sync_stop rfl (by omega) hr h
        have kgo : W.length ≤ r → syncD (hist [f0, f1, f2, f3] W r) = (hist (upd [f0, f1, f2, f3] W) [] (r - W.length), 0) := fun h => hist_sync_go rfl (by omega) hr h
        generalize syncD (hist [f0, f1, f2, f3] W r) = XX at *
        obtain ⟨X, ge⟩ := XX
        have KST := Lib.hid kst; clear kst
        have KGO := Lib.hid kgo; clear kgo
        refine k0.mono ?_
        clear k0 p0 p1 p2 p3
        rintro e w8 ⟨v8, rfl, hd8, hx8⟩
        obtain ⟨a7', c7', a8', c8', rfl, -, -, -, -, -, -⟩ := hd8.open
        have hx9 := hx8.alloc (.cells (dkCells a7' c7' a8' c8' X).toArray 25)
        have T17 := Lib.hid (Box.new w8 (dkCells a7' c7' a8' c8' X) 25)
        have TX := Lib.hid (hd8.keep ((Ext.refl w8).alloc (.cells (dkCells a7' c7' a8' c8' X).toArray 25)))
        have T5 := Lib.hid (A5.out.keep hx9)
        have TO := Lib.hid (AO.out.keep etAc hx9)
        have T8 := Lib.hid (A8.out.keep hx9)
        have T9 := Lib.hid (A9.out.keep hx9)
        have T10 := Lib.hid (A10.out.keep hx9)
        have hE9 := hE7.trans hx9
        have hg17 : g10 < w8.heap.size := Nat.lt_of_lt_of_le A10.out.lt hx8.size
        clear A5 AD AO A8 A9 A10 hE7 HS7 hd8 hx8 hx9
        go_upto_region 24 with fail
        generalize w8.alloc (.cells (dkCells a7' c7' a8' c8' X).toArray 25) = w9 at *
        generalize w8.heap.size = g17 at *
        obtain ⟨st, hst⟩ : ∃ st, decide (r < W.length) = st := ⟨_, rfl⟩
        have hst1 : decide ((r : Int) < (W.length : Int)) = st := by rw [← hst]; simp
        have HST := Lib.hid hst
        go_upto_region 25 with fail
        clear hst hst1
        go_wp2_with fail
        go_loopw [20] (fun tk wi => ∃ (j : Nat) (x0 x1 x2 x3 s0 s1 s2 s3 : UInt8), j ≤ W.length ∧ j ≤ r + 1 ∧ tk = .int .i64 (j : Int) ∧ Hid ([x0, x1, x2, x3] = upd [f0, f1, f2, f3] (W.take j)) ∧ Hid ([s0, s1, s2, s3] = upd [f0, f1, f2, f3] (W.take (min j r))) ∧
          Hid (Box wi g9 [.int .u8 (x0.toNat : Int), .int .u8 (x1.toNat : Int), .int .u8 (x2.toNat : Int), .int .u8 (x3.toNat : Int)]) ∧ Hid (Box wi g10 [.int .u8 (s0.toNat : Int), .int .u8 (s1.toNat : Int), .int .u8 (s2.toNat : Int), .int .u8 (s3.toNat : Int)]) ∧ Hid (Mem (Two2 g9 g10) w9 wi) ∧ Ext w wi) (fun i _ => W.length - (intOf i).toNat)
        case atStart => exact ⟨0, f0, f1, f2, f3, f0, f1, f2, f3, Nat.zero_le _, Nat.zero_le _, rfl, Lib.hid rfl, Lib.hid (by rw [Nat.zero_min]; rfl), T9, T10, Lib.hid (Mem.refl _ _), hE9⟩
        case round =>
          obtain ⟨j, x0, x1, x2, x3, s0, s1, s2, s3, hj, hjr, rfl, HXE, HSE, P9, P10, PM, hEi⟩ := hrel
          by_cases hgo : j < W.length ∧ j ≤ r
          · obtain ⟨hj1, hj2⟩ := hgo
            have PO : Acs (Fo g5 g8 g9 g10) wr (.slice aw W.length cw) W := (TO.out.keepM etAc (PM.out.mono (fun q hq => by rcases hq with h | h; exact .inr (.inr (.inl h)); exact .inr (.inr (.inr h))))).sl etAc
            obtain ⟨bb2, oo2, rfl, hbb2, ya0, ya1, ya2⟩ := PO.elem hj1
            clear PO
            have hu1 := upd_take [f0, f1, f2, f3] W j hj1
            generalize W[j] = a2 at *
            have HU1 := Lib.hid hu1; clear hu1
            have k1 : (j : Int) < W.length := by omega
            have k2 : (j : Int) ≤ r := by omega
            have k0 : (0 : Int) ≤ j := by omega
            go_upto_region 28 with fail
            refine reg6_28 _ _ _ _ _ _ _ _ _ _ _ _ _ _ _ _ _ _ _ _ _ _ _ _ _ _ _ _ _ _ _ _ _ _ _ _ _ _ _ _ _ _ _ _ _ _ _ _ _ _ _ _ _ _ _ _ _ _ _ _ _ _ _ _ _ _ _ _ _ _ _ _ _ _ _ _ _ _ _ _ _ _ _ _ _ _ _ _ _ _ _ _ _ _ _ _ _ _ _ _ _ _ _ _ _ _ _ _ _ _ _ _ _ _ _ _ _ _ _ _ _ _ _ _ _ _ _ _ _ _ _ _ _ _ _ _ _ _ _ _ _ _ _ _ _ _ _ _ _ _ _ _ _ _ _ _ _ _ _ _ wr g9 bb2 oo2 W.length cw j a2 _ _ _ _ P9.out hj1 ya1 ya2 ?_
            intro u104 u105 u106 u107 u108 u109 u110 u111 u112 u113 u114 u115 w10 hx10
            dsimp only
            generalize hW : World.setCell _ _ _ = w11
            obtain ⟨hb, ho⟩ := box_set1 (P9.out.keep hx10) hW
            clear hW
            obtain ⟨n0, n1, n2, n3, hm⟩ := four_of (([x0, x1, x2, x3] : List UInt8).set (at4 a2) a2.byte) (by simp)
            have hbm : [Value.int .u8 (x0.toNat : Int), .int .u8 (x1.toNat : Int), .int .u8 (x2.toNat : Int), .int .u8 (x3.toNat : Int)].set (at4 a2) (.int .u8 (a2.byte.toNat : Int)) = [.int .u8 (n0.toNat : Int), .int .u8 (n1.toNat : Int), .int .u8 (n2.toNat : Int), .int .u8 (n3.toNat : Int)] := by
              have := congrArg bv hm
              unfold bv at this
              rw [List.map_set] at this
              exact this
            rw [hbm] at hb
            clear hbm
            have e9 := N2.out
            have e10 := N3.out
            have Q9 := Lib.hid hb; clear hb
            have Q10 := Lib.hid (ho.box (P10.out.keep hx10) (by omega))
            have QM := Lib.hid (PM.out.trans ((hx10.mem _).trans (ho.mem (S := Two2 g9 g10) (.inl rfl))))
            have hE11 := ho.ext (hEi.trans hx10) (by omega)
            have HN : Hid ([n0, n1, n2, n3] = upd [f0, f1, f2, f3] (W.take (j + 1))) := Lib.hid (by rw [← hm, HXE.out, HU1.out])
            have yb1 := ya1
            clear hm e9 e10
            have MM : Mem (Two2 g9 g10) wr w11 := (hx10.mem _).trans (ho.mem (.inl rfl))
            have hnb : ¬ Two2 g9 g10 bb2 := fun h => hbb2.2 (by rcases h with h | h; exact .inr (.inr (.inl h)); exact .inr (.inr (.inr h)))
            have yb2 := MM.cell hnb ya2
            have yb3 := MM.cell hnb ya1
            clear yb1 MM hnb ya0 ya1 ya2 hx10 ho P9 P10 PM hEi HXE
            by_cases hjr2 : j < r
            · have k3 : (j : Int) < r := by omega
              go_upto_region 30 with fail
              refine reg6_30 _ _ _ _ _ _ _ _ _ _ _ _ _ _ _ _ _ _ _ _ _ _ _ _ _ _ _ _ _ _ _ _ _ _ _ _ _ _ _ _ _ _ _ _ _ _ _ _ _ _ _ _ _ _ _ _ _ _ _ _ _ _ _ _ _ _ _ _ _ _ _ _ _ _ _ _ _ _ _ _ _ _ _ _ _ _ _ _ _ _ _ _ _ _ _ _ _ _ _ _ _ _ _ _ _ _ _ _ _ _ _ _ _ _ _ _ _ _ _ _ _ _ _ _ _ _ _ _ _ _ _ _ _ _ _ _ _ _ _ _ _ _ _ _ _ _ _ _ _ _ _ _ _ _ _ _ _ _ _ _ w11 g10 bb2 oo2 W.length cw j a2 _ _ _ _ Q10.out hj1 yb3 yb2 ?_
              intro u119 u120 u121 u122 u123 u124 u125 u126 u127 u128 u129 u130 w12 hx12
              dsimp only
              generalize hW : World.setCell _ _ _ = w13
              obtain ⟨hb, ho⟩ := box_set1 (Q10.out.keep hx12) hW
              clear hW
              obtain ⟨m0, m1, m2, m3, hm⟩ := four_of (([s0, s1, s2, s3] : List UInt8).set (at4 a2) a2.byte) (by simp)
              have hbm : [Value.int .u8 (s0.toNat : Int), .int .u8 (s1.toNat : Int), .int .u8 (s2.toNat : Int), .int .u8 (s3.toNat : Int)].set (at4 a2) (.int .u8 (a2.byte.toNat : Int)) = [.int .u8 (m0.toNat : Int), .int .u8 (m1.toNat : Int), .int .u8 (m2.toNat : Int), .int .u8 (m3.toNat : Int)] := by
                have := congrArg bv hm
                unfold bv at this
                rw [List.map_set] at this
                exact this
              rw [hbm] at hb
              clear hbm
              have e9 := N2.out
              have e10 := N3.out
              have Z10 := Lib.hid hb; clear hb
              have Z9 := Lib.hid (ho.box (Q9.out.keep hx12) (by omega))
              have ZM := Lib.hid (QM.out.trans ((hx12.mem _).trans (ho.mem (S := Two2 g9 g10) (.inr rfl))))
              have hE13 := ho.ext (hE11.trans hx12) (by omega)
              have HM2 : Hid ([m0, m1, m2, m3] = upd [f0, f1, f2, f3] (W.take (min (j + 1) r))) := Lib.hid (by rw [Nat.min_eq_left (by omega), ← hm, HSE.out, Nat.min_eq_left (by omega), HU1.out])
              clear hm e9 e10 Q9 Q10 QM hE11 hx12 ho HSE HU1 yb2 yb3
              go_wp2_with fail
              go_roundw
              case rel => exact ⟨j + 1, n0, n1, n2, n3, m0, m1, m2, m3, by omega, by omega, by go_num, HN, HM2, Z9, Z10, ZM, hE13⟩
              case measure => simp [intOf]; omega
            · have k3 : ¬ (j : Int) < r := by omega
              have HM2 : Hid ([s0, s1, s2, s3] = upd [f0, f1, f2, f3] (W.take (min (j + 1) r))) := Lib.hid (by rw [HSE.out, Nat.min_eq_right (by omega), Nat.min_eq_right (by omega)])
              clear HSE HU1 yb2 yb3
              go_wp2_with fail
              go_roundw
              case rel => exact ⟨j + 1, n0, n1, n2, n3, s0, s1, s2, s3, by omega, by omega, by go_num, HN, HM2, Q9, Q10, QM, hE11⟩
              case measure => simp [intOf]; omega
          · have hcase : (j < W.length ∧ ¬ j ≤ r) ∨ ¬ j < W.length := by omega
            clear hgo
            have P5 := Lib.hid (T5.out.keepM PM.out (fun h => by have := N2.out; have := N3.out; rcases h with h | h <;> omega))
            have P8 := Lib.hid (T8.out.keepM PM.out (fun h => by have := N2.out; have := N3.out; rcases h with h | h <;> omega))
            have P17 := Lib.hid (T17.out.keepM PM.out (fun h => by have := N2.out; have := N3.out; rcases h with h | h <;> omega))
            have PX := Lib.hid (TX.out.keepM (PM.out.mono (fun q hq => by rcases hq with h | h; exact .inl (.inr (.inr (.inl h))); exact .inl (.inr (.inr (.inr h))))))
            have PO := Lib.hid (TO.out.keepM etAc (PM.out.mono (fun q hq => by rcases hq with h | h; exact .inr (.inr (.inl h)); exact .inr (.inr (.inr h)))))
            clear T5 T8 T17 TX TO T9 T10 PM hE9
            cases st
            · -- it goes on
              have hwr : W.length ≤ r := by have := HST.out; simp at this; exact this
              have hjl : j = W.length := by omega
              obtain ⟨hX, hge⟩ := Prod.mk.inj (KGO.out hwr)
              subst hge
              have hxl : [x0, x1, x2, x3] = [l0, l1, l2, l3] := by rw [HXE.out, HU.out, hjl, List.take_length]
              have hsl : [s0, s1, s2, s3] = [l0, l1, l2, l3] := by rw [HSE.out, HU.out, hjl, Nat.min_eq_left hwr, List.take_length]
              have hXX : X = hist [l0, l1, l2, l3] [] (r - W.length) := by rw [hX, HU.out]
              have HXX := Lib.hid hXX; clear hXX hX
              simp only [List.cons.injEq, and_true] at hxl hsl
              obtain ⟨rfl, rfl, rfl, rfl⟩ := hxl
              obtain ⟨rfl, rfl, rfl, rfl⟩ := hsl
              have HJL := Lib.hid hjl; clear hjl
              have kx : ¬ (j : Int) < W.length := by have := HJL.out; omega
              have ky : (W.length : Int) ≤ r := by omega
              clear hcase KST KGO HST HU HXE HSE
              go_upto_region 36 with fail
              go_upto_region 37 with fail
              have hx14 : Ext wr (wr.alloc (.cells #[] 46)) := (Ext.refl wr).alloc _
              have e9 := N2.out
              have e10 := N3.out
              have hz10 : g10 < wr.heap.size := P10.out.lt
              have hlt14 : ∀ q, Fo g5 g8 g9 g10 q → q < wr.heap.size := fun q hq => by unfold Fo at hq; omega
              have G5 := Lib.hid (P5.out.keep hx14); clear P5
              have G8 := Lib.hid (P8.out.keep hx14); clear P8
              have G9 := Lib.hid (P9.out.keep hx14); clear P9
              have G10 := Lib.hid (P10.out.keep hx14); clear P10
              have G17 := Lib.hid (P17.out.keep hx14); clear P17
              have GX := Lib.hid ((PX.out.more (S' := Wo (Fo g5 g8 g9 g10) (.slice (some ⟨wr.heap.size, 0, none⟩) 0 0)) (fun q hq => by
                rcases hq with hq | hq
                · exact .inl (.inl hq)
                · simp [Value.ownBlock] at hq; exact .inr (by omega))).keepM (hx14.mem _)); clear PX
              have GO : Hid (OSl g8 46 3 eAc (Fo g5 g8 g9 g10) (wr.alloc (.cells #[] 46)) (.slice (some ⟨wr.heap.size, 0, none⟩) 0 0) []) := Lib.hid (osl_row0 (heap_alloc_new wr _) (by omega) (fun h => by have := hlt14 _ h; omega))
              have hE14 := hEi.trans hx14
              clear hEi PO hlt14 e9 e10 hz10 hx14
              generalize wr.alloc (.cells #[] 46) = w14 at *
              generalize wr.heap.size = gn at *
              obtain ⟨z0, z1, z2, z3, -, -, -, -⟩ := G17.out.four
              obtain ⟨p0, p1, p2, p3, q0, q1, q2, q3⟩ := G5.out.four
              have h5s : g5 < w14.heap.size := G5.out.lt
              go_upto_region 38 with fail
              generalize hW : World.setCell _ _ _ = w15
              obtain ⟨hb15, ho15⟩ := box_set4 G5.out hW
              clear hW z0 z1 z2 z3 p0 p1 p2 p3 q0 q1 q2 q3 h5s G5
              have e9 := N2.out
              have e10 := N3.out
              have I5 := Lib.hid hb15; clear hb15
              have ID := Lib.hid (GX.out.keepM (ho15.mem (.inl (.inl rfl)))); clear GX
              have IO := Lib.hid (GO.out.keepM etAc (ho15.mem (.inl rfl))); clear GO
              have I8 := Lib.hid (ho15.box G8.out (by omega)); clear G8
              have I9 := Lib.hid (ho15.box G9.out (by omega)); clear G9
              have I10 := Lib.hid (ho15.box G10.out (by omega)); clear G10 G17
              have hE15 := ho15.ext hE14 hg5
              clear ho15 hE14 e9 e10
              obtain ⟨p0, p1, p2, p3, -, -, -, -⟩ := I5.out.four
              obtain ⟨z0, z1, z2, z3, -, -, -, -⟩ := I8.out.four
              have hho : Holds X [s0, s1, s2, s3] [s0, s1, s2, s3] := by
                rw [HXX.out]
                exact hist_holds (l := []) rfl (by simp) (by omega)
              have HHO := Lib.hid hho; clear hho
              go_wp2_with fail
              refine (holds_ok w15 _ X s0 s1 s2 s3 s0 s1 s2 s3 ID.out HHO.out).mono ?_
              rintro e w16 ⟨rfl, hx16⟩
              clear p0 p1 p2 p3 z0 z1 z2 z3
              have Y5 := Lib.hid (I5.out.keep hx16)
              have YD := Lib.hid (ID.out.keep hx16)
              rw [HXX.out] at Y5 YD
              clear HHO HXX I5 ID
              have hE16 := hE15.trans hx16
              have Y8 := Lib.hid (I8.out.keep hx16)
              have Y9 := Lib.hid (I9.out.keep hx16)
              have Y10 := Lib.hid (I10.out.keep hx16)
              have YO := Lib.hid (IO.out.keep etAc hx16)
              clear I8 I9 I10 IO hE15 hx16
              go_wp2_with fail
              go_roundw
              case rel => exact ⟨k + 1, s0, s1, s2, s3, s0, s1, s2, s3, [], r - W.length, a7', c7', a8', c8', by omega, by go_num, by rw [show (r : Int) - (W.length : Int) = ((r - W.length : Nat) : Int) by omega], by simp, by omega, Lib.hid rfl, Y5, YD, YO, Y8, Y9, Y10, hE16⟩
              case measure => simp [intOf]; omega
            · -- it stops
              have hwr : r < W.length := by have := HST.out; simp at this; exact this
              obtain ⟨hX, hge⟩ := Prod.mk.inj (KST.out hwr)
              subst hge
              have hjl : j = r + 1 := by omega
              have hho : Holds (restartD X) [x0, x1, x2, x3] [s0, s1, s2, s3] := by
                rw [hX, HXE.out, HSE.out, hjl, Nat.min_eq_right (by omega)]
                exact restart_holds (by rw [upd_length]; rfl) (by rw [upd_length]; rfl)
              have hst : X.stopped = true := by rw [hX]
              have HHO := Lib.hid hho; clear hho
              have HSX := Lib.hid hst; clear hst hX
              have HJL := Lib.hid hjl; clear hjl
              clear KST KGO HST HU HXE HSE
              rcases hcase with ⟨h1, h2⟩ | h1
              · have kx : (j : Int) < W.length := by omega
                have ky : ¬ (j : Int) ≤ r := by omega
                go_upto_region 32 with fail
                refine reg6_32 (S := Wo (Fo g5 g8 g9 g10) (.slice aw W.length cw)) _ _ _ _ _ _ _ _ _ _ _ _ _ _ _ _ _ _ _ _ _ _ _ _ _ _ _ _ _ _ _ _ _ _ _ _ _ _ _ _ _ _ _ _ _ _ _ _ _ _ _ _ _ _ _ _ _ _ _ _ _ _ _ _ _ _ _ _ _ _ _ _ _ _ _ _ _ _ _ _ _ _ _ _ _ _ _ _ _ _ _ _ _ _ _ _ _ _ _ _ _ _ _ _ _ _ _ _ _ _ _ _ _ _ _ _ _ _ _ _ _ _ _ _ _ _ _ _ _ _ _ _ _ _ _ _ _ _ _ _ _ _ _ _ _ _ _ _ _ _ _ _ _ _ _ _ _ _ _ wr g17 g9 g10 a7' c7' a8' c8' X x0 x1 x2 x3 s0 s1 s2 s3 HSX.out P17.out PX.out P9.out P10.out HHO.out ?_
                intro u132 u133 u134 u135 u136 u137 u138 u139 u140 u141 u142 u143 u144 wx hxx
                dsimp only
                go_wp2_with fail
                go_ret
                exact ⟨rfl, hEi.trans hxx⟩
              · have kx : ¬ (j : Int) < W.length := by omega
                go_upto_region 32 with fail
                refine reg6_32 (S := Wo (Fo g5 g8 g9 g10) (.slice aw W.length cw)) _ _ _ _ _ _ _ _ _ _ _ _ _ _ _ _ _ _ _ _ _ _ _ _ _ _ _ _ _ _ _ _ _ _ _ _ _ _ _ _ _ _ _ _ _ _ _ _ _ _ _ _ _ _ _ _ _ _ _ _ _ _ _ _ _ _ _ _ _ _ _ _ _ _ _ _ _ _ _ _ _ _ _ _ _ _ _ _ _ _ _ _ _ _ _ _ _ _ _ _ _ _ _ _ _ _ _ _ _ _ _ _ _ _ _ _ _ _ _ _ _ _ _ _ _ _ _ _ _ _ _ _ _ _ _ _ _ _ _ _ _ _ _ _ _ _ _ _ _ _ _ _ _ _ _ _ _ _ _ wr g17 g9 g10 a7' c7' a8' c8' X x0 x1 x2 x3 s0 s1 s2 s3 HSX.out P17.out PX.out P9.out P10.out HHO.out ?_
                intro u132 u133 u134 u135 u136 u137 u138 u139 u140 u141 u142 u143 u144 wx hxx
                dsimp only
                go_wp2_with fail
                go_ret
                exact ⟨rfl, hEi.trans hxx⟩
    · have hi1 : ¬ (k : Int) < l.length := by omega
      go_upto_region 40 with fail
      refine reg6_40 (S := Wo (Fo g5 g8 g9 g10) (.slice aw W.length cw)) _ _ _ _ _ _ _ _ _ _ _ _ _ _ _ _ _ _ _ _ _ _ _ _ _ _ _ _ _ _ _ _ _ _ _ _ _ _ _ _ _ _ _ _ _ _ _ _ _ _ _ _ _ _ _ _ _ _ _ _ _ _ _ _ _ _ _ _ _ _ _ _ _ _ _ _ _ _ _ _ _ _ _ _ _ _ _ _ _ _ _ _ _ _ _ _ _ _ _ _ _ _ _ _ _ _ _ _ _ _ _ _ _ _ _ _ _ _ _ _ _ _ _ _ _ _ _ _ _ _ _ _ _ _ _ _ _ _ _ _ _ _ _ _ _ _ _ _ _ _ _ _ _ _ _ _ _ _ _ _ wr g5 g9 g10 b5 d5 b6 d6 (hist [f0, f1, f2, f3] W r) f0 f1 f2 f3 f0 f1 f2 f3 R5.out RD.out R9.out R10.out (restart_holds rfl rfl) ?_
      intro u158 u159 u160 u161 u162 wx hxx
      dsimp only
      go_wp2_with fail
      go_ret
      exact ⟨rfl, hEr.trans hxx⟩
end Go.Proofs.Ytpciankfpagnhaa
