/- few of chapter 42; the reference's generation. -/
import Derived.Test.YtpciankfpagnhaaJ18
import Derived.Test.YtpciankfpagnhaaJ13
namespace Go.Proofs.Ytpciankfpagnhaa
open Go.RowKit

/-- The bytes and one more of each record. -/
def bytesW (l : List (List UInt8)) : Int := l.foldl (fun n b => wrap64 (n + (1 + (b.length : Int)))) 0
theorem bytesW_snoc (l : List (List UInt8)) (b : List UInt8) : bytesW (l ++ [b]) = wrap64 (bytesW l + (1 + (b.length : Int))) := by unfold bytesW; rw [List.foldl_append]; rfl
def few42 (d : Dk) (l : List (List UInt8)) : Bool := decide ((d.sectors.length : Int) ≤ 40) && decide ((d.pending.length : Int) ≤ 40) && decide (bytesW l ≤ 4000)

set_option maxRecDepth 100000 in
set_option maxHeartbeats 1000000 in
theorem few42_ok {S S2 : Nat → Prop} (w : World) (vd v : Value) (d : Dk) (l : List (List UInt8)) (hd : Disk S2 w vd d) (h : Bss S w v l) (hl : ReachB l) :
    Calls Try.prog 37 #[vd, v] w fun e w' => e = .returned (.bool (few42 d l)) ∧ Ext w w' := by
  obtain ⟨a, c, rfl, hc, hm⟩ := h.open
  obtain ⟨ad, cd, ad2, cd2, rfl, -, -, -, -, -, -⟩ := hd.open
  clear hd
  have H := Lib.hid (Bss.keep h ((Ext.refl w).alloc (.cells #[.slice ad d.sectors.length cd, .slice ad2 d.pending.length cd2, .int .i64 d.left, .bool d.stopped] 25))); clear h
  have HL := Lib.hid hl; clear hl
  have HB := Lib.hid (Box.new w [.slice ad d.sectors.length cd, .slice ad2 d.pending.length cd2, .int .i64 d.left, .bool d.stopped] 25)
  have hE := (Ext.refl w).alloc (.cells #[.slice ad d.sectors.length cd, .slice ad2 d.pending.length cd2, .int .i64 d.left, .bool d.stopped] 25)
  go_enter Try.func37, Try.ntmps37
  go_upto_region 3 with fail
  generalize w.alloc (.cells #[.slice ad d.sectors.length cd, .slice ad2 d.pending.length cd2, .int .i64 d.left, .bool d.stopped] 25) = w1 at *
  obtain ⟨c0, c1, c2, c3, -, -, -, -⟩ := HB.out.four
  go_loop [5, 10] (fun n i => ∃ k : Nat, k ≤ l.length ∧ i = .int .i64 k ∧ n = .int .i64 (bytesW (l.take k))) (fun _ i => l.length - (intOf i).toNat)
  case atStart => exact ⟨0, Nat.zero_le _, rfl, rfl⟩
  case round =>
    obtain ⟨k, hk, rfl, rfl⟩ := hrel
    by_cases hlt : k < l.length
    · obtain ⟨b, o, vd, rfl, hb, h0, hv⟩ := H.out.elem hlt
      have hbl := HL.out l[k] (List.getElem_mem hlt)
      have hts := bytesW_snoc (l.take k) l[k]
      rw [← List.take_succ_eq_append_getElem hlt] at hts
      have HT := Lib.hid hts; clear hts
      generalize l[k] = x at *
      obtain ⟨a3, c3, rfl, hc3, hm3⟩ := hv.open
      have HV := Lib.hid hv; clear hv
      have hi1 : (k : Int) < l.length := by omega
      have hi0 : (0 : Int) ≤ k := by omega
      generalize bytesW (l.take k) = u at *
      go_wp2_with fail
      go_round
      case rel => exact ⟨k + 1, by omega, by go_num, by rw [HT.out]⟩
      case measure => simp [intOf]; omega
    · obtain rfl : l.length = k := by omega
      rw [List.take_length]
      have hfew : few42 d l = (decide ((d.sectors.length : Int) ≤ 40) && decide ((d.pending.length : Int) ≤ 40) && decide (bytesW l ≤ 4000)) := rfl
      have HF := Lib.hid hfew; clear hfew
      obtain ⟨u, hu⟩ : ∃ u, bytesW l = u := ⟨_, rfl⟩
      rw [hu]
      have HU := Lib.hid hu; clear hu
      have hge : ¬ ((l.length : Int) < l.length) := by omega
      by_cases q1 : (d.sectors.length : Int) ≤ 40
      all_goals by_cases q2 : (d.pending.length : Int) ≤ 40
      all_goals by_cases q3 : u ≤ 4000
      all_goals
        go_wp2_with fail
        go_ret
        exact ⟨by rw [HF.out, HU.out]; simp [*], hE⟩

noncomputable def code75_5 : Code := ((Try.f75.body.bind (regionOf 5)).getD .skip)
set_option maxRecDepth 100000 in
set_option maxHeartbeats 4000000 in
theorem reg75_5 {Q : Exit → Act → World → Prop} {S : Nat → Prop} (t1 t2 t5 t6 t7 t8 t9 t10 t11 t12 t13 t14 t15 t16 t17 t18 t19 t20 t21 t22 t23 t24 t25 t26 : Value) (w1 : World) (b o ns cs bl ol nl cl k g gs gt gm : Nat) (s : List UInt8)
    (hc : w1.cell? ⟨bl, ol + k, none⟩ = some (.slice (some ⟨b, o, none⟩) ns cs)) (hs : Bs S w1 (.slice (some ⟨b, o, none⟩) ns cs) s) (hkn : k < nl) (hsl : s.length = 128) (hns : ns = 128) (hnc : ns ≤ cs) (hcm : cs ≤ 9223372036854775807) (hgs : num (s.take 4) = gs) (hgt : num ((s.drop 124).take (ns - 124)) = gt) (hgm : max g (max gs gt) = gm)
    (hQ : ∀ (u11 u12 u13 u14 u15 u16 u17 u18 u19 u20 u21 u22 u23 u24 : Value) (wx : World), Ext w1 wx → Q .normal ⟨#[.slice (some ⟨bl, ol, none⟩) nl cl, t1, t2, .int .u64 (gm : Int), .int .i64 (k : Int), t5, t6, t7, t8, t9, t10, u11, u12, u13, u14, u15, u16, u17, u18, u19, u20, u21, u22, u23, u24, t25, t26], []⟩ wx) :
    Code.wp Try.prog code75_5 Q ⟨#[.slice (some ⟨bl, ol, none⟩) nl cl, t1, t2, .int .u64 (g : Int), .int .i64 (k : Int), t5, t6, t7, t8, t9, t10, t11, t12, t13, t14, t15, t16, t17, t18, t19, t20, t21, t22, t23, t24, t25, t26], []⟩ w1 := by
  conv => arg 2; whnf
  have HQ := Lib.hid hQ; clear hQ
  have h4 := hs.sub 0 4 cs (by omega) (by omega) hcm
  rw [List.drop_zero, Nat.add_zero] at h4
  have H4 := Lib.hid h4; clear h4
  have HT := Lib.hid (hs.sub 124 (ns - 124) (cs - 124) (by omega) (by omega) (by unfold maxLen; omega))
  have hl4 : (s.take 4).length ≤ 8 := by rw [List.length_take]; omega
  have hlt : ((s.drop 124).take (ns - 124)).length ≤ 8 := by rw [List.length_take, List.length_drop]; omega
  have HGS := Lib.hid hgs; clear hgs
  have HGT := Lib.hid hgt; clear hgt
  have i1 : (4 : Int) ≤ cs := by omega
  have i2 : (124 : Int) ≤ ns := by omega
  have i3 : (ns : Int) ≤ cs := by omega
  have i4 : ¬ cs = 124 := by omega
  have i5 : (124 : Int) ≤ cs := by omega
  have i6 : (k : Int) < nl := by omega
  have i7 : (0 : Int) ≤ k := by omega
  have HGM := Lib.hid hgm; clear hgm
  clear hs hsl hns
  refine wp_region_rg 14 (fun _ => none) (by kernel_rfl) (by kernel_rfl) (phi [fun v _ => v = .int .u64 (g : Int),
      fun v _ => v = .slice (some ⟨bl, ol, none⟩) nl cl,
      fun v _ => v = .int .i64 (k : Int),
      fun v _ => v = .pointer (some ⟨bl, ol + k, none⟩),
      fun v _ => v = .slice (some ⟨b, o, none⟩) ns cs,
      fun v _ => v = .slice (some ⟨b, o, none⟩) 4 cs,
      fun v _ => v = .int .u64 (gs : Int),
      fun v _ => v = .slice (some ⟨bl, ol, none⟩) nl cl,
      fun v _ => v = .int .i64 (k : Int),
      fun v _ => v = .pointer (some ⟨bl, ol + k, none⟩),
      fun v _ => v = .slice (some ⟨b, o, none⟩) ns cs,
      fun v _ => v = .slice (some ⟨b, o + 124, none⟩) (ns - 124) (cs - 124),
      fun v _ => v = .int .u64 (gt : Int),
      fun v _ => v = .int .u64 (gm : Int)]) (phi_stable ?stable) ?steps ?tail
  case stable =>
    exact List.forall_mem_cons.2 ⟨stab_eq _, List.forall_mem_cons.2 ⟨stab_eq _, List.forall_mem_cons.2 ⟨stab_eq _, List.forall_mem_cons.2 ⟨stab_eq _, List.forall_mem_cons.2 ⟨stab_eq _, List.forall_mem_cons.2 ⟨stab_eq _, List.forall_mem_cons.2 ⟨stab_eq _, List.forall_mem_cons.2 ⟨stab_eq _, List.forall_mem_cons.2 ⟨stab_eq _, List.forall_mem_cons.2 ⟨stab_eq _, List.forall_mem_cons.2 ⟨stab_eq _, List.forall_mem_cons.2 ⟨stab_eq _, List.forall_mem_cons.2 ⟨stab_eq _, List.forall_mem_cons.2 ⟨stab_eq _, fun _ h => by cases h⟩⟩⟩⟩⟩⟩⟩⟩⟩⟩⟩⟩⟩⟩
  case steps =>
    simp only [List.take_succ_cons, List.take_zero]
    -- 0: slot 11 := Op.move t3
    refine ⟨?_, ?_⟩
    · intro v w' hx hd
      simp only [List.take_succ_cons, List.take_zero, putF, Act.put, List.setIfInBounds_toArray, List.set_cons_zero, List.set_cons_succ, Nat.reduceAdd, Nat.zero_add]
      clear hd
      rw [if_pos (by rfl)]
      intro K hK
      have q0 := hx.cell hc
      have HK := Lib.hid hK; clear hK
      go_simp
      exact HK.out _ _ (.inl (Ext.refl _)) rfl
    -- 1: slot 12 := Op.move t0
    refine ⟨?_, ?_⟩
    · intro v w' hx hd
      simp only [List.take_succ_cons, List.take_zero, putF, Act.put, List.setIfInBounds_toArray, List.set_cons_zero, List.set_cons_succ, Nat.reduceAdd, Nat.zero_add]
      clear hd
      rw [if_pos (by rfl)]
      intro K hK
      have q0 := hx.cell hc
      have HK := Lib.hid hK; clear hK
      go_simp
      exact HK.out _ _ (.inl (Ext.refl _)) rfl
    -- 2: slot 13 := Op.move t4
    refine ⟨?_, ?_⟩
    · intro v w' hx hd
      simp only [List.take_succ_cons, List.take_zero, putF, Act.put, List.setIfInBounds_toArray, List.set_cons_zero, List.set_cons_succ, Nat.reduceAdd, Nat.zero_add]
      clear hd
      rw [if_pos (by rfl)]
      intro K hK
      have q0 := hx.cell hc
      have HK := Lib.hid hK; clear hK
      go_simp
      exact HK.out _ _ (.inl (Ext.refl _)) rfl
    -- 3: slot 14 := Op.indexAddr 22 t12 t13
    refine ⟨?_, ?_⟩
    · intro v w' hx hd
      have e1 : v 1 = .slice (some ⟨bl, ol, none⟩) nl cl := hd 1 (by kernel_rfl)
      have e2 : v 2 = .int .i64 (k : Int) := hd 2 (by kernel_rfl)
      simp only [List.take_succ_cons, List.take_zero, putF, Act.put, List.setIfInBounds_toArray, List.set_cons_zero, List.set_cons_succ, Nat.reduceAdd, Nat.zero_add]
      simp only [e1]
      simp only [e2]
      clear hd e1 e2
      rw [if_pos (by rfl)]
      intro K hK
      have q0 := hx.cell hc
      have HK := Lib.hid hK; clear hK
      go_simp
      exact HK.out _ _ (.inl (Ext.refl _)) rfl
    -- 4: slot 15 := Op.load 35 t14
    refine ⟨?_, ?_⟩
    · intro v w' hx hd
      have e3 : v 3 = .pointer (some ⟨bl, ol + k, none⟩) := hd 3 (by kernel_rfl)
      simp only [List.take_succ_cons, List.take_zero, putF, Act.put, List.setIfInBounds_toArray, List.set_cons_zero, List.set_cons_succ, Nat.reduceAdd, Nat.zero_add]
      simp only [e3]
      clear hd e3
      rw [if_pos (by rfl)]
      intro K hK
      have q0 := hx.cell hc
      have HK := Lib.hid hK; clear hK
      go_simp
      exact HK.out _ _ (.inl (Ext.refl _)) rfl
    -- 5: slot 16 := Op.slice 35 t15 none (some (const (4:i64))) none
    refine ⟨?_, ?_⟩
    · intro v w' hx hd
      have e4 : v 4 = .slice (some ⟨b, o, none⟩) ns cs := hd 4 (by kernel_rfl)
      simp only [List.take_succ_cons, List.take_zero, putF, Act.put, List.setIfInBounds_toArray, List.set_cons_zero, List.set_cons_succ, Nat.reduceAdd, Nat.zero_add]
      simp only [e4]
      clear hd e4
      rw [if_pos (by rfl)]
      intro K hK
      have q0 := hx.cell hc
      have HK := Lib.hid hK; clear hK
      go_simp
      exact HK.out _ _ (.inl (Ext.refl _)) rfl
    -- 6: slot 17 := Op.call { value (Operand.func 85), args := #[t16], argTypes := #[35] }
    refine ⟨?_, ?_⟩
    · intro v w' hx hd
      have e5 : v 5 = .slice (some ⟨b, o, none⟩) 4 cs := hd 5 (by kernel_rfl)
      simp only [List.take_succ_cons, List.take_zero, putF, Act.put, List.setIfInBounds_toArray, List.set_cons_zero, List.set_cons_succ, Nat.reduceAdd, Nat.zero_add]
      simp only [e5]
      clear hd e5
      rw [if_pos (by rfl)]
      intro K hK
      have q0 := hx.cell hc
      have HK := Lib.hid hK; clear hK
      go_simp
      refine (number_ok w' _ (s.take 4) (H4.out.keep hx) (by omega)).mono ?_
      rintro e w2 ⟨rfl, rfl⟩
      rw [HGS.out]
      exact HK.out _ _ (.inl (Ext.refl _)) rfl
    -- 7: slot 18 := Op.move t0
    refine ⟨?_, ?_⟩
    · intro v w' hx hd
      simp only [List.take_succ_cons, List.take_zero, putF, Act.put, List.setIfInBounds_toArray, List.set_cons_zero, List.set_cons_succ, Nat.reduceAdd, Nat.zero_add]
      clear hd
      rw [if_pos (by rfl)]
      intro K hK
      have q0 := hx.cell hc
      have HK := Lib.hid hK; clear hK
      go_simp
      exact HK.out _ _ (.inl (Ext.refl _)) rfl
    -- 8: slot 19 := Op.move t4
    refine ⟨?_, ?_⟩
    · intro v w' hx hd
      simp only [List.take_succ_cons, List.take_zero, putF, Act.put, List.setIfInBounds_toArray, List.set_cons_zero, List.set_cons_succ, Nat.reduceAdd, Nat.zero_add]
      clear hd
      rw [if_pos (by rfl)]
      intro K hK
      have q0 := hx.cell hc
      have HK := Lib.hid hK; clear hK
      go_simp
      exact HK.out _ _ (.inl (Ext.refl _)) rfl
    -- 9: slot 20 := Op.indexAddr 22 t18 t19
    refine ⟨?_, ?_⟩
    · intro v w' hx hd
      have e7 : v 7 = .slice (some ⟨bl, ol, none⟩) nl cl := hd 7 (by kernel_rfl)
      have e8 : v 8 = .int .i64 (k : Int) := hd 8 (by kernel_rfl)
      simp only [List.take_succ_cons, List.take_zero, putF, Act.put, List.setIfInBounds_toArray, List.set_cons_zero, List.set_cons_succ, Nat.reduceAdd, Nat.zero_add]
      simp only [e7]
      simp only [e8]
      clear hd e7 e8
      rw [if_pos (by rfl)]
      intro K hK
      have q0 := hx.cell hc
      have HK := Lib.hid hK; clear hK
      go_simp
      exact HK.out _ _ (.inl (Ext.refl _)) rfl
    -- 10: slot 21 := Op.load 35 t20
    refine ⟨?_, ?_⟩
    · intro v w' hx hd
      have e9 : v 9 = .pointer (some ⟨bl, ol + k, none⟩) := hd 9 (by kernel_rfl)
      simp only [List.take_succ_cons, List.take_zero, putF, Act.put, List.setIfInBounds_toArray, List.set_cons_zero, List.set_cons_succ, Nat.reduceAdd, Nat.zero_add]
      simp only [e9]
      clear hd e9
      rw [if_pos (by rfl)]
      intro K hK
      have q0 := hx.cell hc
      have HK := Lib.hid hK; clear hK
      go_simp
      exact HK.out _ _ (.inl (Ext.refl _)) rfl
    -- 11: slot 22 := Op.slice 35 t21 (some (const (124:i64))) none none
    refine ⟨?_, ?_⟩
    · intro v w' hx hd
      have e10 : v 10 = .slice (some ⟨b, o, none⟩) ns cs := hd 10 (by kernel_rfl)
      simp only [List.take_succ_cons, List.take_zero, putF, Act.put, List.setIfInBounds_toArray, List.set_cons_zero, List.set_cons_succ, Nat.reduceAdd, Nat.zero_add]
      simp only [e10]
      clear hd e10
      rw [if_pos (by rfl)]
      intro K hK
      have q0 := hx.cell hc
      have HK := Lib.hid hK; clear hK
      go_simp
      exact HK.out _ _ (.inl (Ext.refl _)) rfl
    -- 12: slot 23 := Op.call { value (Operand.func 85), args := #[t22], argTypes := #[35] }
    refine ⟨?_, ?_⟩
    · intro v w' hx hd
      have e11 : v 11 = .slice (some ⟨b, o + 124, none⟩) (ns - 124) (cs - 124) := hd 11 (by kernel_rfl)
      simp only [List.take_succ_cons, List.take_zero, putF, Act.put, List.setIfInBounds_toArray, List.set_cons_zero, List.set_cons_succ, Nat.reduceAdd, Nat.zero_add]
      simp only [e11]
      clear hd e11
      rw [if_pos (by rfl)]
      intro K hK
      have q0 := hx.cell hc
      have HK := Lib.hid hK; clear hK
      go_simp
      refine (number_ok w' _ ((s.drop 124).take (ns - 124)) (HT.out.keep hx) (by omega)).mono ?_
      rintro e w2 ⟨rfl, rfl⟩
      rw [HGT.out]
      exact HK.out _ _ (.inl (Ext.refl _)) rfl
    -- 13: slot 24 := Op.call { builtin max, args := #[t11, t17, t23], argTypes := #[95, 95, 95] }
    refine ⟨?_, ?_⟩
    · intro v w' hx hd
      have e0 : v 0 = .int .u64 (g : Int) := hd 0 (by kernel_rfl)
      have e6 : v 6 = .int .u64 (gs : Int) := hd 6 (by kernel_rfl)
      have e12 : v 12 = .int .u64 (gt : Int) := hd 12 (by kernel_rfl)
      simp only [List.take_succ_cons, List.take_zero, putF, Act.put, List.setIfInBounds_toArray, List.set_cons_zero, List.set_cons_succ, Nat.reduceAdd, Nat.zero_add]
      simp only [e0]
      simp only [e6]
      simp only [e12]
      clear hd e0 e6 e12
      rw [if_pos (by rfl)]
      intro K hK
      have q0 := hx.cell hc
      have HK := Lib.hid hK; clear hK
      go_simp
      exact HK.out _ _ (.inl (Ext.refl _)) (congrArg (Value.int .u64) (by have := HGM.out; split <;> split <;> omega))
    exact trivial
  case tail =>
    intro v w' hx hall
    simp only [List.drop_succ_cons, List.drop_zero, List.take_succ_cons, List.take_zero, putF, Act.put, List.setIfInBounds_toArray, List.set_cons_zero, List.set_cons_succ, Nat.reduceAdd, Nat.zero_add]
    have e13 : v 13 = .int .u64 (gm : Int) := hall 13 (by decide) (fun k hk => by simp at hk)
    simp only [e13]
    have HX := Lib.hid hx; clear hx
    clear hall e13
    go_wp2_with fail
    exact HQ.out _ _ _ _ _ _ _ _ _ _ _ _ _ _ w' HX.out

/-- The greatest generation on sectors. -/
def genTop (ss : List (List UInt8)) : Nat := ss.foldl (fun g s => max g (max (gen s) (num ((s.drop 124).take (s.length - 124))))) 0
theorem genTop_snoc (ss : List (List UInt8)) (s : List UInt8) : genTop (ss ++ [s]) = max (genTop ss) (max (gen s) (num ((s.drop 124).take (s.length - 124)))) := by unfold genTop; rw [List.foldl_append]; rfl
theorem genTop_max (ss : List (List UInt8)) : genTop ss + 1 = genMax ss := by
  induction ss using snoc_ind with
  | h0 => rfl
  | h1 l s ih => rw [genTop_snoc, genMax_snoc, ← ih]; omega

set_option maxRecDepth 100000 in
set_option maxHeartbeats 2000000 in
theorem generation_ok {S : Nat → Prop} (w : World) (v : Value) (l : List (List UInt8)) (h : Bss S w v l) (h128 : ∀ s ∈ l, s.length = 128) :
    Calls Try.prog 75 #[v] w fun e w' => e = .returned (.int .u64 (genMax l : Int)) ∧ Ext w w' := by
  obtain ⟨a, c, rfl, hc, hm⟩ := h.open
  have H := Lib.hid h; clear h
  have H128 := Lib.hid h128; clear h128
  go_enter Try.func75, Try.ntmps75
  go_wp2_with fail
  go_loopw [3, 4] (fun n i wr => ∃ k : Nat, k ≤ l.length ∧ i = .int .i64 k ∧ n = .int .u64 (genTop (l.take k) : Int) ∧ Ext w wr) (fun _ i _ => l.length - (intOf i).toNat)
  case atStart => exact ⟨0, Nat.zero_le _, rfl, rfl, Ext.refl _⟩
  case round =>
    obtain ⟨k, hk, rfl, rfl, hE⟩ := hrel
    by_cases hlt : k < l.length
    · obtain ⟨bl, ol, vd, rfl, hb, h0, hv⟩ := (Bss.keep H.out hE).elem hlt
      have hsl := H128.out _ (List.getElem_mem hlt)
      have hts := genTop_snoc (l.take k) l[k]
      rw [← List.take_succ_eq_append_getElem hlt] at hts
      have HT := Lib.hid hts; clear hts
      generalize l[k] = sk at *
      have HSL := Lib.hid hsl; clear hsl
      obtain ⟨a0, cs, rfl, hcs, hms⟩ := hv.open
      obtain ⟨b0, o0, rfl, -, -⟩ := hv.elem (k := 0) (by have := HSL.out; omega)
      have HV := Lib.hid hv; clear hv
      have H0 := Lib.hid h0
      have hki : (k : Int) < l.length := by omega
      have hk0 : (0 : Int) ≤ k := by omega
      generalize genTop (l.take k) = g0 at *
      generalize hgn : genTop (l.take (k + 1)) = gn at *
      have HGN := Lib.hid hgn; clear hgn
      go_upto_region 5 with fail
      refine reg75_5 _ _ _ _ _ _ _ _ _ _ _ _ _ _ _ _ _ _ _ _ _ _ _ _ wr b0 o0 sk.length cs bl ol l.length c k g0 (gen sk) (num ((sk.drop 124).take (sk.length - 124))) gn sk H0.out HV.out hlt HSL.out HSL.out hcs hms rfl rfl HT.out.symm ?_
      intro v0 v1 v2 v3 v4 v5 v6 v7 v8 v9 v10 v11 v12 v13 wx hxx
      go_wp2_with fail
      go_roundw
      case rel => exact ⟨k + 1, by omega, by go_num, by rw [HGN.out], hE.trans hxx⟩
      case measure => simp [intOf]; omega
    · obtain rfl : k = l.length := by omega
      rw [List.take_length]
      have hg := genMax_le l H128.out
      have ht := genTop_max l
      have hge : ¬ ((l.length : Int) < l.length) := by omega
      have hw1 : IntKind.u64.wrap ((genTop l : Int) + 1) = (genMax l : Int) := by rw [← ht]; exact wraps_u64 _ (by omega) (by omega)
      obtain ⟨gm, hgm⟩ : ∃ gm, genMax l = gm := ⟨_, rfl⟩
      rw [hgm] at hw1 hg ht
      have HGM := Lib.hid hgm; clear hgm
      generalize genTop l = gt at *
      go_wp2_with fail
      go_ret
      exact ⟨by rw [HGM.out]; rfl, hE⟩
end Go.Proofs.Ytpciankfpagnhaa
