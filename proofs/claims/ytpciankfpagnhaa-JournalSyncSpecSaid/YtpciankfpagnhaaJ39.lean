/- A sector of the reference, whatever number is given as its place. -/
import Derived.Test.YtpciankfpagnhaaJ4
namespace Go.Proofs.Ytpciankfpagnhaa
open Go.RowKit

set_option maxRecDepth 100000 in
set_option maxHeartbeats 4000000 in
theorem sectorZ_ok {S S2 : Nat → Prop} (w : World) (g k : Nat) (z : Int) (b e : Bool) (v : Value) (p : List UInt8) (hg : g < 18446744073709551616) (hwz : IntKind.u64.wrap z = (k : Int)) (hk : k < 18446744073709551616) (h : Bs S2 w v p) (hl : p.length ≤ 112) (hS : ∀ k, S k → k < w.heap.size) :
    Calls Try.prog 76 #[.int .u64 (g : Int), .int .i64 z, .bool b, .bool e, v] w fun e' w' => ∃ v', e' = .returned v' ∧ Bs S w' v' (sect g k (kindOf b e) p) ∧ Ext w w' := by
  obtain ⟨a, c, rfl, hc, hm⟩ := h.open
  have H := Lib.hid (Bs.from h); clear h
  have HK := Lib.hid hk; clear hk
  have HWZ := Lib.hid hwz; clear hwz
  obtain ⟨i5, HI⟩ := zInfo
  go_enter Try.func76, Try.ntmps76
  have hx : ∃ x : UInt8, kindOf b e = x := ⟨_, rfl⟩
  obtain ⟨x, hx⟩ := hx
  have hkv : (x = 0 ∧ b = false ∧ e = false) ∨ (x = 1 ∧ b = true ∧ e = false) ∨ (x = 2 ∧ b = false ∧ e = true) ∨ (x = 3 ∧ b = true ∧ e = true) := by
    subst hx; cases b <;> cases e <;> decide
  rw [hx]; clear hx
  have hpm : (p.length : Int) % 256 = p.length := by omega
  rcases hkv with ⟨rfl, rfl, rfl⟩ | ⟨rfl, rfl, rfl⟩ | ⟨rfl, rfl, rfl⟩ | ⟨rfl, rfl, rfl⟩
  · have hk' := HWZ.out
    go_upto_region 6 with fail
    go_wp2_with fail
    clear hk'
    refine (numeral_ok (S := fun _ => False) w w.heap.size k 2 make2 (by decide) (by have := HK.out; omega) (fun _ h => h.elim) (Nat.le_refl _)).mono ?_
    rintro _ w1 ⟨v1, rfl, ho1, hx1, rfl⟩
    have hb1 := (ho1.block _ rfl).2
    have hs1 := hx1.size
    go_wp2_with (at_builtin; go_loud (refine wpList_append_osl atB etByte rfl _ _ rfl w.heap.size _ _ (be 2 k) [0, UInt8.ofNat p.length] rfl rfl (ho1.keep etByte ((Ext.refl _).alloc _)) (lit_wo 0 hl hb1) (fun _ h => h.elim) (by simp [be_length]) (by simp [be_length]) (by simp; omega) ?_))
    rintro v2 w2 ho2 hg2
    have hx2 : Ext w w2 := (hx1.alloc _).grown hg2 (fun k hk => by simp [Value.ownBlock] at hk; omega)
    clear hg2 ho1 hx1 hb1 hs1
    have hv2 := fun g hg => (ho2.block g hg).1
    obtain ⟨a2, c2, rfl, hc2, hm2⟩ := (ho2.sl etByte).open
    go_wp2_with (at_builtin; go_loud (refine wpList_append_osl atB etByte rfl _ _ rfl w.heap.size _ _ (be 2 k ++ [0, UInt8.ofNat p.length]) p rfl rfl ho2 ((H.out.keep hx2).wo hv2) (fun _ h => h.elim) (by simp [be_length]; omega) (by simp [be_length]; omega) hx2.size ?_))
    rintro v3 w3 ho3 hg3
    have hx3 : Ext w w3 := hx2.grown hg3 hv2
    clear hg3 ho2 hx2 hv2
    obtain ⟨g3, c3, rfl, hc3, hm3⟩ := ho3.some (by simp [be_length]; try omega)
    go_wp2_with (at_builtin; go_loud (refine wpList_append_zeros (n := 112 - p.length) rfl _ _ rfl Try.underlying35 U3 HI.1 HI.2.1 HI.2.2.1 HI.2.2.2 rfl rfl rfl (congrArg (Value.int .i64) (by omega)) ho3 (fun _ h => h.elim) hx3.size (by simp [be_length]; omega) ?_))
    rintro v4 w4 ho4 hg4 _
    have hx4 : Ext w w4 := hx3.grown hg4 (fun k hk => by cases hk; exact (ho3.block _ rfl).1)
    clear hg4 ho3 hx3
    have ho4' : OSl w.heap.size 5 1 eByte (fun _ => False) w4 v4 (sBody k 0 p) := by
      have e4 : be 2 k ++ [0, UInt8.ofNat p.length] ++ p ++ List.replicate (112 - p.length) 0 = sBody k 0 p := rfl
      rw [← e4]; simpa using ho4
    clear ho4
    have ho4 := ho4'; clear ho4'
    have hlb : (sBody k 0 p).length = 116 := sBody_length k 0 p hl
    have HSB := Lib.hid (Bs.from (ho4.sl etByte)); clear ho4
    have hcl := crc_lt (sBody k 0 p)
    have hse : sect g k 0 p = be 4 g ++ be 4 (crc (sBody k 0 p)) ++ sBody k 0 p ++ be 4 g := rfl
    have HSE := Lib.hid hse; clear hse
    generalize sBody k 0 p = bd at *
    have hlb1 : bd.length ≤ 116 := by omega
    clear hlb
    obtain ⟨a4, c4, rfl, hc4, hm4⟩ := HSB.out.open
    go_wp2_with fail
    refine (numeral_ok (S := fun _ => False) w4 w4.heap.size g 4 make4 (by decide) hg (fun _ h => h.elim) (Nat.le_refl _)).mono ?_
    rintro _ w5 ⟨v5, rfl, ho5, hx5, rfl⟩
    have hb5 := (ho5.block _ rfl).2
    go_wp2_with fail
    refine (checksum_ok (S := From w4.heap.size) w5 _ bd (HSB.out.keep hx5)).mono ?_
    rintro _ w5' ⟨rfl, rfl⟩
    generalize crc bd = cd at *
    go_wp2_with fail
    refine (numeral_ok (S := Wo (fun _ => False) (.slice (some ⟨w4.heap.size, 0, none⟩) 4 4)) w5 w5.heap.size cd 4 make4 (by decide) (by omega) (wo_lt hb5) (Nat.le_refl _)).mono ?_
    rintro _ w6 ⟨v6, rfl, ho6, hx6, -⟩
    obtain ⟨a6, c6, rfl, hc6, hm6⟩ := (ho6.sl etByte).open
    have hx46 := hx5.trans hx6
    go_wp2_with (at_builtin; go_loud (refine wpList_append_osl atB etByte rfl _ _ rfl w4.heap.size _ _ (be 4 g) (be 4 cd) rfl rfl (ho5.keep etByte hx6) (ho6.sl etByte) (fun _ h => h.elim) (by simp [be_length]) (by simp [be_length]) hx46.size ?_))
    rintro v7 w7 ho7 hg7
    have hx7 : Ext w4 w7 := hx46.grown hg7 (fun k hk => by simp [Value.ownBlock] at hk; omega)
    clear hg7 ho5 ho6 hx5 hx6 hx46 hb5
    have hv7 := fun g hg => (ho7.block g hg).1
    obtain ⟨a7, c7, rfl, hc7, hm7⟩ := (ho7.sl etByte).open
    go_wp2_with (at_builtin; go_loud (refine wpList_append_osl atB etByte rfl _ _ rfl w4.heap.size _ _ (be 4 g ++ be 4 cd) bd rfl rfl ho7 ((HSB.out.keep hx7).wo hv7) (fun _ h => h.elim) (by simp [be_length]; omega) (by simp [be_length]; omega) hx7.size ?_))
    rintro v8 w8 ho8 hg8
    have hx8 : Ext w4 w8 := hx7.grown hg8 hv7
    clear hg8 ho7 hx7 hv7
    have hv8 := fun g hg => (ho8.block g hg).1
    obtain ⟨g8, c8, rfl, hc8, hm8⟩ := ho8.some (by simp [be_length]; try omega)
    have hb8 := (ho8.block g8 rfl).2
    generalize hn8 : (be 4 g ++ (be 4 cd ++ bd)).length = n8 at *
    have HN8 := Lib.hid hn8; clear hn8
    go_wp2_with fail
    refine (numeral_ok (S := fun k => k < w8.heap.size) w8 w8.heap.size g 4 make4 (by decide) hg (fun k hk => hk) (Nat.le_refl _)).mono ?_
    rintro _ w9 ⟨v9, rfl, ho9, hx9, -⟩
    obtain ⟨a9, c9, rfl, hc9, hm9⟩ := (ho9.sl etByte).open
    have hx49 := hx8.trans hx9
    go_wp2_with (at_builtin; go_loud (refine wpList_append_osl atB etByte rfl _ _ rfl w4.heap.size _ _ (be 4 g ++ (be 4 cd ++ bd)) (be 4 g) rfl rfl (ho8.keep etByte hx9) (Bs.below (ho9.sl etByte) hb8) (fun _ h => h.elim) (by simp [be_length]; omega) (by simp [be_length]; omega) hx49.size ?_))
    rintro v10 w10 ho10 hg10
    have hx10 : Ext w4 w10 := hx49.grown hg10 hv8
    clear hg10 ho8 ho9 hx8 hx9 hx49
    have ho11 : OSl w4.heap.size 5 1 eByte (fun _ => False) w10 v10 (sect g k 0 p) := by rw [HSE.out]; simpa using ho10
    clear ho10
    have HO := Lib.hid ((ho11.toS (fun k hk => Nat.lt_of_lt_of_le (hS k hk) hx4.size)).sl etByte)
    obtain ⟨a10, c10, rfl, hc10, hm10⟩ := HO.out.open
    clear ho11
    go_wp2_with fail
    go_ret
    exact ⟨_, rfl, HO.out, hx4.trans hx10⟩
  · have hk' := HWZ.out
    go_upto_region 6 with fail
    go_wp2_with fail
    clear hk'
    refine (numeral_ok (S := fun _ => False) w w.heap.size k 2 make2 (by decide) (by have := HK.out; omega) (fun _ h => h.elim) (Nat.le_refl _)).mono ?_
    rintro _ w1 ⟨v1, rfl, ho1, hx1, rfl⟩
    have hb1 := (ho1.block _ rfl).2
    have hs1 := hx1.size
    go_wp2_with (at_builtin; go_loud (refine wpList_append_osl atB etByte rfl _ _ rfl w.heap.size _ _ (be 2 k) [1, UInt8.ofNat p.length] rfl rfl (ho1.keep etByte ((Ext.refl _).alloc _)) (lit_wo 1 hl hb1) (fun _ h => h.elim) (by simp [be_length]) (by simp [be_length]) (by simp; omega) ?_))
    rintro v2 w2 ho2 hg2
    have hx2 : Ext w w2 := (hx1.alloc _).grown hg2 (fun k hk => by simp [Value.ownBlock] at hk; omega)
    clear hg2 ho1 hx1 hb1 hs1
    have hv2 := fun g hg => (ho2.block g hg).1
    obtain ⟨a2, c2, rfl, hc2, hm2⟩ := (ho2.sl etByte).open
    go_wp2_with (at_builtin; go_loud (refine wpList_append_osl atB etByte rfl _ _ rfl w.heap.size _ _ (be 2 k ++ [1, UInt8.ofNat p.length]) p rfl rfl ho2 ((H.out.keep hx2).wo hv2) (fun _ h => h.elim) (by simp [be_length]; omega) (by simp [be_length]; omega) hx2.size ?_))
    rintro v3 w3 ho3 hg3
    have hx3 : Ext w w3 := hx2.grown hg3 hv2
    clear hg3 ho2 hx2 hv2
    obtain ⟨g3, c3, rfl, hc3, hm3⟩ := ho3.some (by simp [be_length]; try omega)
    go_wp2_with (at_builtin; go_loud (refine wpList_append_zeros (n := 112 - p.length) rfl _ _ rfl Try.underlying35 U3 HI.1 HI.2.1 HI.2.2.1 HI.2.2.2 rfl rfl rfl (congrArg (Value.int .i64) (by omega)) ho3 (fun _ h => h.elim) hx3.size (by simp [be_length]; omega) ?_))
    rintro v4 w4 ho4 hg4 _
    have hx4 : Ext w w4 := hx3.grown hg4 (fun k hk => by cases hk; exact (ho3.block _ rfl).1)
    clear hg4 ho3 hx3
    have ho4' : OSl w.heap.size 5 1 eByte (fun _ => False) w4 v4 (sBody k 1 p) := by
      have e4 : be 2 k ++ [1, UInt8.ofNat p.length] ++ p ++ List.replicate (112 - p.length) 0 = sBody k 1 p := rfl
      rw [← e4]; simpa using ho4
    clear ho4
    have ho4 := ho4'; clear ho4'
    have hlb : (sBody k 1 p).length = 116 := sBody_length k 1 p hl
    have HSB := Lib.hid (Bs.from (ho4.sl etByte)); clear ho4
    have hcl := crc_lt (sBody k 1 p)
    have hse : sect g k 1 p = be 4 g ++ be 4 (crc (sBody k 1 p)) ++ sBody k 1 p ++ be 4 g := rfl
    have HSE := Lib.hid hse; clear hse
    generalize sBody k 1 p = bd at *
    have hlb1 : bd.length ≤ 116 := by omega
    clear hlb
    obtain ⟨a4, c4, rfl, hc4, hm4⟩ := HSB.out.open
    go_wp2_with fail
    refine (numeral_ok (S := fun _ => False) w4 w4.heap.size g 4 make4 (by decide) hg (fun _ h => h.elim) (Nat.le_refl _)).mono ?_
    rintro _ w5 ⟨v5, rfl, ho5, hx5, rfl⟩
    have hb5 := (ho5.block _ rfl).2
    go_wp2_with fail
    refine (checksum_ok (S := From w4.heap.size) w5 _ bd (HSB.out.keep hx5)).mono ?_
    rintro _ w5' ⟨rfl, rfl⟩
    generalize crc bd = cd at *
    go_wp2_with fail
    refine (numeral_ok (S := Wo (fun _ => False) (.slice (some ⟨w4.heap.size, 0, none⟩) 4 4)) w5 w5.heap.size cd 4 make4 (by decide) (by omega) (wo_lt hb5) (Nat.le_refl _)).mono ?_
    rintro _ w6 ⟨v6, rfl, ho6, hx6, -⟩
    obtain ⟨a6, c6, rfl, hc6, hm6⟩ := (ho6.sl etByte).open
    have hx46 := hx5.trans hx6
    go_wp2_with (at_builtin; go_loud (refine wpList_append_osl atB etByte rfl _ _ rfl w4.heap.size _ _ (be 4 g) (be 4 cd) rfl rfl (ho5.keep etByte hx6) (ho6.sl etByte) (fun _ h => h.elim) (by simp [be_length]) (by simp [be_length]) hx46.size ?_))
    rintro v7 w7 ho7 hg7
    have hx7 : Ext w4 w7 := hx46.grown hg7 (fun k hk => by simp [Value.ownBlock] at hk; omega)
    clear hg7 ho5 ho6 hx5 hx6 hx46 hb5
    have hv7 := fun g hg => (ho7.block g hg).1
    obtain ⟨a7, c7, rfl, hc7, hm7⟩ := (ho7.sl etByte).open
    go_wp2_with (at_builtin; go_loud (refine wpList_append_osl atB etByte rfl _ _ rfl w4.heap.size _ _ (be 4 g ++ be 4 cd) bd rfl rfl ho7 ((HSB.out.keep hx7).wo hv7) (fun _ h => h.elim) (by simp [be_length]; omega) (by simp [be_length]; omega) hx7.size ?_))
    rintro v8 w8 ho8 hg8
    have hx8 : Ext w4 w8 := hx7.grown hg8 hv7
    clear hg8 ho7 hx7 hv7
    have hv8 := fun g hg => (ho8.block g hg).1
    obtain ⟨g8, c8, rfl, hc8, hm8⟩ := ho8.some (by simp [be_length]; try omega)
    have hb8 := (ho8.block g8 rfl).2
    generalize hn8 : (be 4 g ++ (be 4 cd ++ bd)).length = n8 at *
    have HN8 := Lib.hid hn8; clear hn8
    go_wp2_with fail
    refine (numeral_ok (S := fun k => k < w8.heap.size) w8 w8.heap.size g 4 make4 (by decide) hg (fun k hk => hk) (Nat.le_refl _)).mono ?_
    rintro _ w9 ⟨v9, rfl, ho9, hx9, -⟩
    obtain ⟨a9, c9, rfl, hc9, hm9⟩ := (ho9.sl etByte).open
    have hx49 := hx8.trans hx9
    go_wp2_with (at_builtin; go_loud (refine wpList_append_osl atB etByte rfl _ _ rfl w4.heap.size _ _ (be 4 g ++ (be 4 cd ++ bd)) (be 4 g) rfl rfl (ho8.keep etByte hx9) (Bs.below (ho9.sl etByte) hb8) (fun _ h => h.elim) (by simp [be_length]; omega) (by simp [be_length]; omega) hx49.size ?_))
    rintro v10 w10 ho10 hg10
    have hx10 : Ext w4 w10 := hx49.grown hg10 hv8
    clear hg10 ho8 ho9 hx8 hx9 hx49
    have ho11 : OSl w4.heap.size 5 1 eByte (fun _ => False) w10 v10 (sect g k 1 p) := by rw [HSE.out]; simpa using ho10
    clear ho10
    have HO := Lib.hid ((ho11.toS (fun k hk => Nat.lt_of_lt_of_le (hS k hk) hx4.size)).sl etByte)
    obtain ⟨a10, c10, rfl, hc10, hm10⟩ := HO.out.open
    clear ho11
    go_wp2_with fail
    go_ret
    exact ⟨_, rfl, HO.out, hx4.trans hx10⟩
  · have hk' := HWZ.out
    go_upto_region 6 with fail
    go_wp2_with fail
    clear hk'
    refine (numeral_ok (S := fun _ => False) w w.heap.size k 2 make2 (by decide) (by have := HK.out; omega) (fun _ h => h.elim) (Nat.le_refl _)).mono ?_
    rintro _ w1 ⟨v1, rfl, ho1, hx1, rfl⟩
    have hb1 := (ho1.block _ rfl).2
    have hs1 := hx1.size
    go_wp2_with (at_builtin; go_loud (refine wpList_append_osl atB etByte rfl _ _ rfl w.heap.size _ _ (be 2 k) [2, UInt8.ofNat p.length] rfl rfl (ho1.keep etByte ((Ext.refl _).alloc _)) (lit_wo 2 hl hb1) (fun _ h => h.elim) (by simp [be_length]) (by simp [be_length]) (by simp; omega) ?_))
    rintro v2 w2 ho2 hg2
    have hx2 : Ext w w2 := (hx1.alloc _).grown hg2 (fun k hk => by simp [Value.ownBlock] at hk; omega)
    clear hg2 ho1 hx1 hb1 hs1
    have hv2 := fun g hg => (ho2.block g hg).1
    obtain ⟨a2, c2, rfl, hc2, hm2⟩ := (ho2.sl etByte).open
    go_wp2_with (at_builtin; go_loud (refine wpList_append_osl atB etByte rfl _ _ rfl w.heap.size _ _ (be 2 k ++ [2, UInt8.ofNat p.length]) p rfl rfl ho2 ((H.out.keep hx2).wo hv2) (fun _ h => h.elim) (by simp [be_length]; omega) (by simp [be_length]; omega) hx2.size ?_))
    rintro v3 w3 ho3 hg3
    have hx3 : Ext w w3 := hx2.grown hg3 hv2
    clear hg3 ho2 hx2 hv2
    obtain ⟨g3, c3, rfl, hc3, hm3⟩ := ho3.some (by simp [be_length]; try omega)
    go_wp2_with (at_builtin; go_loud (refine wpList_append_zeros (n := 112 - p.length) rfl _ _ rfl Try.underlying35 U3 HI.1 HI.2.1 HI.2.2.1 HI.2.2.2 rfl rfl rfl (congrArg (Value.int .i64) (by omega)) ho3 (fun _ h => h.elim) hx3.size (by simp [be_length]; omega) ?_))
    rintro v4 w4 ho4 hg4 _
    have hx4 : Ext w w4 := hx3.grown hg4 (fun k hk => by cases hk; exact (ho3.block _ rfl).1)
    clear hg4 ho3 hx3
    have ho4' : OSl w.heap.size 5 1 eByte (fun _ => False) w4 v4 (sBody k 2 p) := by
      have e4 : be 2 k ++ [2, UInt8.ofNat p.length] ++ p ++ List.replicate (112 - p.length) 0 = sBody k 2 p := rfl
      rw [← e4]; simpa using ho4
    clear ho4
    have ho4 := ho4'; clear ho4'
    have hlb : (sBody k 2 p).length = 116 := sBody_length k 2 p hl
    have HSB := Lib.hid (Bs.from (ho4.sl etByte)); clear ho4
    have hcl := crc_lt (sBody k 2 p)
    have hse : sect g k 2 p = be 4 g ++ be 4 (crc (sBody k 2 p)) ++ sBody k 2 p ++ be 4 g := rfl
    have HSE := Lib.hid hse; clear hse
    generalize sBody k 2 p = bd at *
    have hlb1 : bd.length ≤ 116 := by omega
    clear hlb
    obtain ⟨a4, c4, rfl, hc4, hm4⟩ := HSB.out.open
    go_wp2_with fail
    refine (numeral_ok (S := fun _ => False) w4 w4.heap.size g 4 make4 (by decide) hg (fun _ h => h.elim) (Nat.le_refl _)).mono ?_
    rintro _ w5 ⟨v5, rfl, ho5, hx5, rfl⟩
    have hb5 := (ho5.block _ rfl).2
    go_wp2_with fail
    refine (checksum_ok (S := From w4.heap.size) w5 _ bd (HSB.out.keep hx5)).mono ?_
    rintro _ w5' ⟨rfl, rfl⟩
    generalize crc bd = cd at *
    go_wp2_with fail
    refine (numeral_ok (S := Wo (fun _ => False) (.slice (some ⟨w4.heap.size, 0, none⟩) 4 4)) w5 w5.heap.size cd 4 make4 (by decide) (by omega) (wo_lt hb5) (Nat.le_refl _)).mono ?_
    rintro _ w6 ⟨v6, rfl, ho6, hx6, -⟩
    obtain ⟨a6, c6, rfl, hc6, hm6⟩ := (ho6.sl etByte).open
    have hx46 := hx5.trans hx6
    go_wp2_with (at_builtin; go_loud (refine wpList_append_osl atB etByte rfl _ _ rfl w4.heap.size _ _ (be 4 g) (be 4 cd) rfl rfl (ho5.keep etByte hx6) (ho6.sl etByte) (fun _ h => h.elim) (by simp [be_length]) (by simp [be_length]) hx46.size ?_))
    rintro v7 w7 ho7 hg7
    have hx7 : Ext w4 w7 := hx46.grown hg7 (fun k hk => by simp [Value.ownBlock] at hk; omega)
    clear hg7 ho5 ho6 hx5 hx6 hx46 hb5
    have hv7 := fun g hg => (ho7.block g hg).1
    obtain ⟨a7, c7, rfl, hc7, hm7⟩ := (ho7.sl etByte).open
    go_wp2_with (at_builtin; go_loud (refine wpList_append_osl atB etByte rfl _ _ rfl w4.heap.size _ _ (be 4 g ++ be 4 cd) bd rfl rfl ho7 ((HSB.out.keep hx7).wo hv7) (fun _ h => h.elim) (by simp [be_length]; omega) (by simp [be_length]; omega) hx7.size ?_))
    rintro v8 w8 ho8 hg8
    have hx8 : Ext w4 w8 := hx7.grown hg8 hv7
    clear hg8 ho7 hx7 hv7
    have hv8 := fun g hg => (ho8.block g hg).1
    obtain ⟨g8, c8, rfl, hc8, hm8⟩ := ho8.some (by simp [be_length]; try omega)
    have hb8 := (ho8.block g8 rfl).2
    generalize hn8 : (be 4 g ++ (be 4 cd ++ bd)).length = n8 at *
    have HN8 := Lib.hid hn8; clear hn8
    go_wp2_with fail
    refine (numeral_ok (S := fun k => k < w8.heap.size) w8 w8.heap.size g 4 make4 (by decide) hg (fun k hk => hk) (Nat.le_refl _)).mono ?_
    rintro _ w9 ⟨v9, rfl, ho9, hx9, -⟩
    obtain ⟨a9, c9, rfl, hc9, hm9⟩ := (ho9.sl etByte).open
    have hx49 := hx8.trans hx9
    go_wp2_with (at_builtin; go_loud (refine wpList_append_osl atB etByte rfl _ _ rfl w4.heap.size _ _ (be 4 g ++ (be 4 cd ++ bd)) (be 4 g) rfl rfl (ho8.keep etByte hx9) (Bs.below (ho9.sl etByte) hb8) (fun _ h => h.elim) (by simp [be_length]; omega) (by simp [be_length]; omega) hx49.size ?_))
    rintro v10 w10 ho10 hg10
    have hx10 : Ext w4 w10 := hx49.grown hg10 hv8
    clear hg10 ho8 ho9 hx8 hx9 hx49
    have ho11 : OSl w4.heap.size 5 1 eByte (fun _ => False) w10 v10 (sect g k 2 p) := by rw [HSE.out]; simpa using ho10
    clear ho10
    have HO := Lib.hid ((ho11.toS (fun k hk => Nat.lt_of_lt_of_le (hS k hk) hx4.size)).sl etByte)
    obtain ⟨a10, c10, rfl, hc10, hm10⟩ := HO.out.open
    clear ho11
    go_wp2_with fail
    go_ret
    exact ⟨_, rfl, HO.out, hx4.trans hx10⟩
  · have hk' := HWZ.out
    go_upto_region 6 with fail
    go_wp2_with fail
    clear hk'
    refine (numeral_ok (S := fun _ => False) w w.heap.size k 2 make2 (by decide) (by have := HK.out; omega) (fun _ h => h.elim) (Nat.le_refl _)).mono ?_
    rintro _ w1 ⟨v1, rfl, ho1, hx1, rfl⟩
    have hb1 := (ho1.block _ rfl).2
    have hs1 := hx1.size
    go_wp2_with (at_builtin; go_loud (refine wpList_append_osl atB etByte rfl _ _ rfl w.heap.size _ _ (be 2 k) [3, UInt8.ofNat p.length] rfl rfl (ho1.keep etByte ((Ext.refl _).alloc _)) (lit_wo 3 hl hb1) (fun _ h => h.elim) (by simp [be_length]) (by simp [be_length]) (by simp; omega) ?_))
    rintro v2 w2 ho2 hg2
    have hx2 : Ext w w2 := (hx1.alloc _).grown hg2 (fun k hk => by simp [Value.ownBlock] at hk; omega)
    clear hg2 ho1 hx1 hb1 hs1
    have hv2 := fun g hg => (ho2.block g hg).1
    obtain ⟨a2, c2, rfl, hc2, hm2⟩ := (ho2.sl etByte).open
    go_wp2_with (at_builtin; go_loud (refine wpList_append_osl atB etByte rfl _ _ rfl w.heap.size _ _ (be 2 k ++ [3, UInt8.ofNat p.length]) p rfl rfl ho2 ((H.out.keep hx2).wo hv2) (fun _ h => h.elim) (by simp [be_length]; omega) (by simp [be_length]; omega) hx2.size ?_))
    rintro v3 w3 ho3 hg3
    have hx3 : Ext w w3 := hx2.grown hg3 hv2
    clear hg3 ho2 hx2 hv2
    obtain ⟨g3, c3, rfl, hc3, hm3⟩ := ho3.some (by simp [be_length]; try omega)
    go_wp2_with (at_builtin; go_loud (refine wpList_append_zeros (n := 112 - p.length) rfl _ _ rfl Try.underlying35 U3 HI.1 HI.2.1 HI.2.2.1 HI.2.2.2 rfl rfl rfl (congrArg (Value.int .i64) (by omega)) ho3 (fun _ h => h.elim) hx3.size (by simp [be_length]; omega) ?_))
    rintro v4 w4 ho4 hg4 _
    have hx4 : Ext w w4 := hx3.grown hg4 (fun k hk => by cases hk; exact (ho3.block _ rfl).1)
    clear hg4 ho3 hx3
    have ho4' : OSl w.heap.size 5 1 eByte (fun _ => False) w4 v4 (sBody k 3 p) := by
      have e4 : be 2 k ++ [3, UInt8.ofNat p.length] ++ p ++ List.replicate (112 - p.length) 0 = sBody k 3 p := rfl
      rw [← e4]; simpa using ho4
    clear ho4
    have ho4 := ho4'; clear ho4'
    have hlb : (sBody k 3 p).length = 116 := sBody_length k 3 p hl
    have HSB := Lib.hid (Bs.from (ho4.sl etByte)); clear ho4
    have hcl := crc_lt (sBody k 3 p)
    have hse : sect g k 3 p = be 4 g ++ be 4 (crc (sBody k 3 p)) ++ sBody k 3 p ++ be 4 g := rfl
    have HSE := Lib.hid hse; clear hse
    generalize sBody k 3 p = bd at *
    have hlb1 : bd.length ≤ 116 := by omega
    clear hlb
    obtain ⟨a4, c4, rfl, hc4, hm4⟩ := HSB.out.open
    go_wp2_with fail
    refine (numeral_ok (S := fun _ => False) w4 w4.heap.size g 4 make4 (by decide) hg (fun _ h => h.elim) (Nat.le_refl _)).mono ?_
    rintro _ w5 ⟨v5, rfl, ho5, hx5, rfl⟩
    have hb5 := (ho5.block _ rfl).2
    go_wp2_with fail
    refine (checksum_ok (S := From w4.heap.size) w5 _ bd (HSB.out.keep hx5)).mono ?_
    rintro _ w5' ⟨rfl, rfl⟩
    generalize crc bd = cd at *
    go_wp2_with fail
    refine (numeral_ok (S := Wo (fun _ => False) (.slice (some ⟨w4.heap.size, 0, none⟩) 4 4)) w5 w5.heap.size cd 4 make4 (by decide) (by omega) (wo_lt hb5) (Nat.le_refl _)).mono ?_
    rintro _ w6 ⟨v6, rfl, ho6, hx6, -⟩
    obtain ⟨a6, c6, rfl, hc6, hm6⟩ := (ho6.sl etByte).open
    have hx46 := hx5.trans hx6
    go_wp2_with (at_builtin; go_loud (refine wpList_append_osl atB etByte rfl _ _ rfl w4.heap.size _ _ (be 4 g) (be 4 cd) rfl rfl (ho5.keep etByte hx6) (ho6.sl etByte) (fun _ h => h.elim) (by simp [be_length]) (by simp [be_length]) hx46.size ?_))
    rintro v7 w7 ho7 hg7
    have hx7 : Ext w4 w7 := hx46.grown hg7 (fun k hk => by simp [Value.ownBlock] at hk; omega)
    clear hg7 ho5 ho6 hx5 hx6 hx46 hb5
    have hv7 := fun g hg => (ho7.block g hg).1
    obtain ⟨a7, c7, rfl, hc7, hm7⟩ := (ho7.sl etByte).open
    go_wp2_with (at_builtin; go_loud (refine wpList_append_osl atB etByte rfl _ _ rfl w4.heap.size _ _ (be 4 g ++ be 4 cd) bd rfl rfl ho7 ((HSB.out.keep hx7).wo hv7) (fun _ h => h.elim) (by simp [be_length]; omega) (by simp [be_length]; omega) hx7.size ?_))
    rintro v8 w8 ho8 hg8
    have hx8 : Ext w4 w8 := hx7.grown hg8 hv7
    clear hg8 ho7 hx7 hv7
    have hv8 := fun g hg => (ho8.block g hg).1
    obtain ⟨g8, c8, rfl, hc8, hm8⟩ := ho8.some (by simp [be_length]; try omega)
    have hb8 := (ho8.block g8 rfl).2
    generalize hn8 : (be 4 g ++ (be 4 cd ++ bd)).length = n8 at *
    have HN8 := Lib.hid hn8; clear hn8
    go_wp2_with fail
    refine (numeral_ok (S := fun k => k < w8.heap.size) w8 w8.heap.size g 4 make4 (by decide) hg (fun k hk => hk) (Nat.le_refl _)).mono ?_
    rintro _ w9 ⟨v9, rfl, ho9, hx9, -⟩
    obtain ⟨a9, c9, rfl, hc9, hm9⟩ := (ho9.sl etByte).open
    have hx49 := hx8.trans hx9
    go_wp2_with (at_builtin; go_loud (refine wpList_append_osl atB etByte rfl _ _ rfl w4.heap.size _ _ (be 4 g ++ (be 4 cd ++ bd)) (be 4 g) rfl rfl (ho8.keep etByte hx9) (Bs.below (ho9.sl etByte) hb8) (fun _ h => h.elim) (by simp [be_length]; omega) (by simp [be_length]; omega) hx49.size ?_))
    rintro v10 w10 ho10 hg10
    have hx10 : Ext w4 w10 := hx49.grown hg10 hv8
    clear hg10 ho8 ho9 hx8 hx9 hx49
    have ho11 : OSl w4.heap.size 5 1 eByte (fun _ => False) w10 v10 (sect g k 3 p) := by rw [HSE.out]; simpa using ho10
    clear ho10
    have HO := Lib.hid ((ho11.toS (fun k hk => Nat.lt_of_lt_of_le (hS k hk) hx4.size)).sl etByte)
    obtain ⟨a10, c10, rfl, hc10, hm10⟩ := HO.out.open
    clear ho11
    go_wp2_with fail
    go_ret
    exact ⟨_, rfl, HO.out, hx4.trans hx10⟩
end Go.Proofs.Ytpciankfpagnhaa
