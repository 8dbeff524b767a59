/- The walk of HeadBack. -/
import Derived.Test.YtagnelfnjlfhnaaDoorLaw13c
import Derived.Test.YtagnelfnjlfhnaaDoorBack13
import Derived.Test.YtagnelfnjlfhnaaDoorApp
namespace Go.Proofs.YtagnelfnjlfhnaaDoor
set_option linter.unusedVariables false
open Go.RowKit

theorem back_long (w : World) (hT : Tabs w) (x : HB) (a : Option Addr) (c n : Nat) (hn : n ≤ 9223372036854775807) (h : 600 < n) :
    Calls Tryd.prog 5 #[x.val, .slice a n c] w fun e w' => e = .returned (.bool true) ∧ Fr [] w w' := by
  have h5 := heads_any
  have b1 : decide (600 < n) = true := by simpa using h
  have hval : x.val = .agg #[.int .i64 x.tag, .int .i64 x.cls, .bool x.used, .int .i64 x.label, .int .u32 x.name, .int .u32 x.next, .int .u32 x.prev, .int .u32 x.refs, .int .u64 x.expiry, .int .u16 x.typ, .int .i64 x.size, .int .u32 x.hash] := rfl
  rw [hval]
  clear hval
  go_enter Tryd.func5, Tryd.ntmps5
  go_wp2_with fail
  with_reducible refine (h5 _ (hT.alloc _)).mono ?_
  rintro e w4 ⟨rfl, f4⟩
  have F4 := ((Fr.refl [] w).alloc _).trans f4
  go_wp2_with fail
  go_ret
  exact ⟨rfl, F4⟩

theorem dec_bad (b : List Nat) (h : (dec b).1 ≠ 0) : (dec b).2 = HB.zero := by
  unfold dec at h ⊢
  by_cases h0 : b.length = 0
  · rw [if_pos h0]
  rw [if_neg h0] at h ⊢
  by_cases h2 : 2 < b[0]?.getD 0
  · rw [if_pos h2]
  rw [if_neg h2] at h ⊢
  by_cases h3 : b.length < szZ (b[0]?.getD 0 : Nat)
  · rw [if_pos h3]
  rw [if_neg h3] at h ⊢
  by_cases h4 : 1 < decN b (b[0]?.getD 0 : Nat) 2 ∨ (HB.ofNums (decN b (b[0]?.getD 0 : Nat))).right = false
  · rw [if_pos h4]
  · rw [if_neg h4] at h; simp at h

/-- 'b[:k]' -/
theorem run_head (g o n c k : Nat) (hk : k ≤ c) (w : World) : (Instr.slice 27 (.slice (some ⟨g, o, none⟩) n c) none (some (.int .i64 (k : Int))) none).run Tryd.prog w = .ok (.slice (some ⟨g, o, none⟩) k c) w := by
  simp [Instr.slice, Instr.sliceBounds, Instr.sliceBound, asIntOf, run_underlying Tryd.underlying27, go_sem, hk]



set_option maxRecDepth 100000 in
set_option maxHeartbeats 8000000 in
theorem back_00 (w : World) (hT : Tabs w) (x : HB) (hx : x.Ok) (a : Option Addr) (c n : Nat) (l : List Nat) (hb : Byt w a l) (hl : l.length = n) (h : n ≤ 600) (hnc : n ≤ c) (hr : x.right = false) (D : HB) (hD : dec l = (0, D)) :
    Calls Tryd.prog 5 #[x.val, .slice a n c] w fun e w' => e = .returned (.bool true) ∧ Fr [] w w' := by
  have h5 := heads_any
  have b1 : decide (600 < n) = false := by simpa using h
  have hrt := fun W h => right_any W h x hx
  rw [hr] at hrt
  have hde := fun W h c hb => decode_any W h a c l hb
  rw [hD, hl] at hde
  unfold decV at hde
  have hsz := fun W h => size_any W h x.tag
  have hval : x.val = .agg #[.int .i64 x.tag, .int .i64 x.cls, .bool x.used, .int .i64 x.label, .int .u32 x.name, .int .u32 x.next, .int .u32 x.prev, .int .u32 x.refs, .int .u64 x.expiry, .int .u16 x.typ, .int .i64 x.size, .int .u32 x.hash] := rfl
  have HB2 := Lib.hid hb
  have HL := Lib.hid hl
  have HX := Lib.hid hx
  have HR := Lib.hid hr
  obtain ⟨hDok, hDr, hDl, hDt⟩ := enc_dec l hb.byte (by rw [hD])
  rw [hD] at hDok hDr hDl hDt
  simp only at hDok hDr hDl hDt
  have hDv : D.val = .agg #[.int .i64 D.tag, .int .i64 D.cls, .bool D.used, .int .i64 D.label, .int .u32 D.name, .int .u32 D.next, .int .u32 D.prev, .int .u32 D.refs, .int .u64 D.expiry, .int .u16 D.typ, .int .i64 D.size, .int .u32 D.hash] := rfl
  have hDc : D.cells = #[.int .i64 D.tag, .int .i64 D.cls, .bool D.used, .int .i64 D.label, .int .u32 D.name, .int .u32 D.next, .int .u32 D.prev, .int .u32 D.refs, .int .u64 D.expiry, .int .u16 D.typ, .int .i64 D.size, .int .u32 D.hash] := rfl
  have heq := fun W h => encode_yes W h D hDok hDr
  unfold EncP at heq
  have hDe := enc_len D
  rw [hDe, hl] at hDl
  rw [hDe] at hDt
  have hszD := szZ_le D.tag
  rw [hDv] at heq
  have hpos : 8 ≤ szZ D.tag := by
    have hr2 := hDr
    simp only [HB.right, Bool.and_eq_true, decide_eq_true_eq] at hr2
    obtain ⟨t, ht⟩ : ∃ t : Nat, D.tag = t := ⟨D.tag.toNat, by omega⟩
    rw [ht]
    exact szZ_8 t (by omega)
  obtain ⟨ga, oa, rfl⟩ : ∃ g o, a = some ⟨g, o, none⟩ := by
    obtain ⟨g, o, e, _⟩ := hb.at_ 0 (by omega)
    exact ⟨g, o, e⟩
  simp only [hDv] at hde
  have HDT := Lib.hid hDt
  have HDE := Lib.hid (enc_byte D)
  have hst := fun W a c l h => conv_str W a c l h
  clear hDt hDok hDr hDe
  have hen := fun W h => encode_no W h x hx hr
  rw [hval] at hrt hen ⊢
  clear hb hD hl hx hr hval
  go_enter Tryd.func5, Tryd.ntmps5
  go_wp2_with fail
  with_reducible refine (hen _ (hT.alloc _)).mono ?_
  rintro e w1 ⟨rfl, f1⟩
  have hT1 := (hT.alloc (.cells x.cells 26)).fr f1 (by simp)
  have hX1 := (Blk.new w 26 x.cells).fr f1 (by simp)
  have hF1 := ((Fr.refl [] w).alloc (.cells x.cells 26)).trans f1
  (have c0 := hX1.cell 0; have c1 := hX1.cell 1; have c2 := hX1.cell 2; have c3 := hX1.cell 3; have c4 := hX1.cell 4; have c5 := hX1.cell 5; have c6 := hX1.cell 6; have c7 := hX1.cell 7; have c8 := hX1.cell 8; have c9 := hX1.cell 9; have c10 := hX1.cell 10; have c11 := hX1.cell 11; simp [HB.cells] at c0 c1 c2 c3 c4 c5 c6 c7 c8 c9 c10 c11)
  go_wp2_with fail
  with_reducible refine (hrt _ hT1).mono ?_
  rintro e Wp ⟨rfl, f2⟩
  have hTp := hT1.fr f2 (by simp)
  have hFp := hF1.trans f2
  clear c0 c1 c2 c3 c4 c5 c6 c7 c8 c9 c10 c11
  clear f1 f2 hT1 hX1 hF1 hen hrt
  go_wp2_with fail
  clear hsz
  with_reducible refine (hde _ hTp _ (HB2.out.fr hFp (by simp))).mono ?_
  rintro e w7 ⟨rfl, f7⟩
  have hT7 := (hTp.fr f7 (by simp)).alloc (.cells D.cells 26)
  have hF7 := (hFp.trans f7).alloc (.cells D.cells 26)
  clear hde f7 hTp hFp
  go_wp2_with fail
  change Calls Tryd.prog 9 _ (w7.alloc (.cells D.cells 26)) _
  with_reducible refine (heq _ hT7).mono ?_
  rintro e w8 ⟨gq, rfl, hGq, hgq, f8⟩
  have hT8 := hT7.fr f8 (by simp)
  have hF8 := hF7.trans f8
  clear hT7 hF7 f8 heq hgq
  go_wp2_with fail
  have hT9 := hT8.fr (frDrew (S := [])) (by simp)
  have hF9 := hF8.trans (frDrew (S := []))
  have hQ9 := (hGq.byt HDE.out (by rw [enc_len]; omega)).fr (frDrew (S := [])) (by simp)
  have hBy := fun W (hf : Fr [] w W) => HB2.out.fr hf (by simp)
  have hle := enc_len D
  obtain ⟨sq, hsq⟩ : ∃ sq, sq = szZ D.tag := ⟨_, rfl⟩
  rw [← hsq] at hDl hszD hpos hle ⊢
  have hrh := run_head ga oa n c sq (by omega)
  have htk : ∀ W, Fr [] w W → Byt W (some ⟨ga, oa, none⟩) D.enc := fun W hf => by
    have hby := hBy W hf
    have ht : D.enc = l.take sq := by rw [hsq]; exact HDT.out
    rw [ht]
    refine ⟨fun i hi => ?_, fun b hb => hby.byte b (List.mem_of_mem_take hb), Nat.le_trans (List.length_take_le' _ _) hby.len⟩
    rw [List.length_take] at hi
    obtain ⟨g, o, e, hc, hg⟩ := hby.at_ i (by omega)
    exact ⟨g, o, e, by rw [List.getElem?_take_of_lt (by omega)]; exact hc, hg⟩
  have hs1 : ∀ W, Byt W (some ⟨gq, 0, none⟩) D.enc → (convert 27 9 (.slice (some ⟨gq, 0, none⟩) sq sq)).run Tryd.prog W = .ok (.string (strOf D.enc)) W := fun W h => by
    have := conv_str W (some ⟨gq, 0, none⟩) sq D.enc h
    rwa [hle] at this
  have hs2 : ∀ W, Fr [] w W → (convert 27 9 (.slice (some ⟨ga, oa, none⟩) sq c)).run Tryd.prog W = .ok (.string (strOf D.enc)) W := fun W hf => by
    have := conv_str W (some ⟨ga, oa, none⟩) c D.enc (htk W hf)
    rwa [hle] at this
  generalize strOf D.enc = s at *
  have hse : (s.toList == s.toList) = true := beq_self_eq_true _
  have sa := hs1 _ hQ9
  have sb := hs2 _ hF9
  have b7 : decide (sq ≤ n) = true := by simpa using hDl
  have b8 : decide ((sq : Int) ≤ n) = true := by simp; omega
  have hsqc : sq ≤ c := by omega
  have HSQ := Lib.hid hsq
  have HLE := Lib.hid hle
  clear hT8 hF8 hGq hBy hle hsq htk hst
  go_region_held3 (fun w' => (convert 27 9 (.slice (some ⟨gq, 0, none⟩) sq sq)).run Tryd.prog w' = .ok (.string s) w' ∧ (convert 27 9 (.slice (some ⟨ga, oa, none⟩) sq c)).run Tryd.prog w' = .ok (.string s) w') (exact ⟨sa, sb⟩)
    (first
      | (go_at_call 8; with_reducible refine (h5 _ hT9).mono ?_; rintro e W5 ⟨rfl, f9⟩; have hF10 := hF9.trans f9; have hQ10 := hQ9.fr f9 (by simp); have sa := hs1 _ hQ10; have sb := hs2 _ hF10))
  go_wp2_with fail
  go_ret
  exact ⟨rfl, hF10⟩

set_option maxRecDepth 100000 in
set_option maxHeartbeats 8000000 in
theorem back_01 (w : World) (hT : Tabs w) (x : HB) (hx : x.Ok) (a : Option Addr) (c n : Nat) (l : List Nat) (hb : Byt w a l) (hl : l.length = n) (h : n ≤ 600) (hnc : n ≤ c) (hr : x.right = false) (er : Nat) (her : er ≠ 0) (hD : dec l = (er, HB.zero)) :
    Calls Tryd.prog 5 #[x.val, .slice a n c] w fun e w' => e = .returned (.bool true) ∧ Fr [] w w' := by
  have h5 := heads_any
  have b1 : decide (600 < n) = false := by simpa using h
  have hrt := fun W h => right_any W h x hx
  rw [hr] at hrt
  have hde := fun W h c hb => decode_any W h a c l hb
  rw [hD, hl] at hde
  unfold decV at hde
  have hsz := fun W h => size_any W h x.tag
  have hval : x.val = .agg #[.int .i64 x.tag, .int .i64 x.cls, .bool x.used, .int .i64 x.label, .int .u32 x.name, .int .u32 x.next, .int .u32 x.prev, .int .u32 x.refs, .int .u64 x.expiry, .int .u16 x.typ, .int .i64 x.size, .int .u32 x.hash] := rfl
  have HB2 := Lib.hid hb
  have HL := Lib.hid hl
  have HX := Lib.hid hx
  have HR := Lib.hid hr
  have hz0 : HB.zero.val = .agg #[.int .i64 0, .int .i64 0, .bool false, .int .i64 0, .int .u32 0, .int .u32 0, .int .u32 0, .int .u32 0, .int .u64 0, .int .u16 0, .int .i64 0, .int .u32 0] := rfl
  simp only [hz0] at hde
  have hE0 : ∀ w, (Op.equalIn 10000 26 (.agg #[.int .i64 0, .int .i64 0, .bool false, .int .i64 0, .int .u32 0, .int .u32 0, .int .u32 0, .int .u32 0, .int .u64 0, .int .u16 0, .int .i64 0, .int .u32 0]) (.agg #[.int .i64 0, .int .i64 0, .bool false, .int .i64 0, .int .u32 0, .int .u32 0, .int .u32 0, .int .u32 0, .int .u64 0, .int .u16 0, .int .i64 0, .int .u32 0])).run Tryd.prog w = .ok true w := fun w => by
    have := eq_head HB.zero HB.zero w
    rw [show HB.zero.same HB.zero = true from rfl] at this
    exact this
  have he0 : ((er : Int) != 0) = true := by simp; omega
  clear her hz0
  have hen := fun W h => encode_no W h x hx hr
  rw [hval] at hrt hen ⊢
  clear hb hD hl hx hr hval
  go_enter Tryd.func5, Tryd.ntmps5
  go_wp2_with fail
  with_reducible refine (hen _ (hT.alloc _)).mono ?_
  rintro e w1 ⟨rfl, f1⟩
  have hT1 := (hT.alloc (.cells x.cells 26)).fr f1 (by simp)
  have hX1 := (Blk.new w 26 x.cells).fr f1 (by simp)
  have hF1 := ((Fr.refl [] w).alloc (.cells x.cells 26)).trans f1
  (have c0 := hX1.cell 0; have c1 := hX1.cell 1; have c2 := hX1.cell 2; have c3 := hX1.cell 3; have c4 := hX1.cell 4; have c5 := hX1.cell 5; have c6 := hX1.cell 6; have c7 := hX1.cell 7; have c8 := hX1.cell 8; have c9 := hX1.cell 9; have c10 := hX1.cell 10; have c11 := hX1.cell 11; simp [HB.cells] at c0 c1 c2 c3 c4 c5 c6 c7 c8 c9 c10 c11)
  go_wp2_with fail
  with_reducible refine (hrt _ hT1).mono ?_
  rintro e Wp ⟨rfl, f2⟩
  have hTp := hT1.fr f2 (by simp)
  have hFp := hF1.trans f2
  clear c0 c1 c2 c3 c4 c5 c6 c7 c8 c9 c10 c11
  clear f1 f2 hT1 hX1 hF1 hen hrt
  go_wp2_with fail
  clear hsz
  with_reducible refine (hde _ hTp _ (HB2.out.fr hFp (by simp))).mono ?_
  rintro e w7 ⟨rfl, f7⟩
  have hT7 := (hTp.fr f7 (by simp)).alloc (.cells #[.int .i64 0, .int .i64 0, .bool false, .int .i64 0, .int .u32 0, .int .u32 0, .int .u32 0, .int .u32 0, .int .u64 0, .int .u16 0, .int .i64 0, .int .u32 0] 26)
  have hF7 := (hFp.trans f7).alloc (.cells #[.int .i64 0, .int .i64 0, .bool false, .int .i64 0, .int .u32 0, .int .u32 0, .int .u32 0, .int .u32 0, .int .u64 0, .int .u16 0, .int .i64 0, .int .u32 0] 26)
  clear hde f7 hTp hFp
  go_wp2_with fail
  with_reducible refine (h5 _ hT7).mono ?_
  rintro e w8 ⟨rfl, f8⟩
  have F8 := hF7.trans f8
  go_wp2_with fail
  go_ret
  exact ⟨rfl, F8⟩

set_option maxRecDepth 100000 in
set_option maxHeartbeats 8000000 in
theorem back_10 (w : World) (hT : Tabs w) (x : HB) (hx : x.Ok) (a : Option Addr) (c n : Nat) (l : List Nat) (hb : Byt w a l) (hl : l.length = n) (h : n ≤ 600) (hnc : n ≤ c) (hr : x.right = true) (D : HB) (hD : dec l = (0, D)) :
    Calls Tryd.prog 5 #[x.val, .slice a n c] w fun e w' => e = .returned (.bool true) ∧ Fr [] w w' := by
  have h5 := heads_any
  have b1 : decide (600 < n) = false := by simpa using h
  have hrt := fun W h => right_any W h x hx
  rw [hr] at hrt
  have hde := fun W h c hb => decode_any W h a c l hb
  rw [hD, hl] at hde
  unfold decV at hde
  have hsz := fun W h => size_any W h x.tag
  have hval : x.val = .agg #[.int .i64 x.tag, .int .i64 x.cls, .bool x.used, .int .i64 x.label, .int .u32 x.name, .int .u32 x.next, .int .u32 x.prev, .int .u32 x.refs, .int .u64 x.expiry, .int .u16 x.typ, .int .i64 x.size, .int .u32 x.hash] := rfl
  have HB2 := Lib.hid hb
  have HL := Lib.hid hl
  have HX := Lib.hid hx
  have HR := Lib.hid hr
  obtain ⟨hDok, hDr, hDl, hDt⟩ := enc_dec l hb.byte (by rw [hD])
  rw [hD] at hDok hDr hDl hDt
  simp only at hDok hDr hDl hDt
  have hDv : D.val = .agg #[.int .i64 D.tag, .int .i64 D.cls, .bool D.used, .int .i64 D.label, .int .u32 D.name, .int .u32 D.next, .int .u32 D.prev, .int .u32 D.refs, .int .u64 D.expiry, .int .u16 D.typ, .int .i64 D.size, .int .u32 D.hash] := rfl
  have hDc : D.cells = #[.int .i64 D.tag, .int .i64 D.cls, .bool D.used, .int .i64 D.label, .int .u32 D.name, .int .u32 D.next, .int .u32 D.prev, .int .u32 D.refs, .int .u64 D.expiry, .int .u16 D.typ, .int .i64 D.size, .int .u32 D.hash] := rfl
  have heq := fun W h => encode_yes W h D hDok hDr
  unfold EncP at heq
  have hDe := enc_len D
  rw [hDe, hl] at hDl
  rw [hDe] at hDt
  have hszD := szZ_le D.tag
  rw [hDv] at heq
  have hpos : 8 ≤ szZ D.tag := by
    have hr2 := hDr
    simp only [HB.right, Bool.and_eq_true, decide_eq_true_eq] at hr2
    obtain ⟨t, ht⟩ : ∃ t : Nat, D.tag = t := ⟨D.tag.toNat, by omega⟩
    rw [ht]
    exact szZ_8 t (by omega)
  obtain ⟨ga, oa, rfl⟩ : ∃ g o, a = some ⟨g, o, none⟩ := by
    obtain ⟨g, o, e, _⟩ := hb.at_ 0 (by omega)
    exact ⟨g, o, e⟩
  simp only [hDv] at hde
  have HDT := Lib.hid hDt
  have HDE := Lib.hid (enc_byte D)
  have hst := fun W a c l h => conv_str W a c l h
  clear hDt hDok hDr hDe
  have hen := fun W h => encode_yes W h x hx hr
  unfold EncP at hen
  have hxx := fun w => eq_head x x w
  rw [show (x.same x) = true by rw [HB.same_iff]] at hxx
  have hxc : x.cells = #[.int .i64 x.tag, .int .i64 x.cls, .bool x.used, .int .i64 x.label, .int .u32 x.name, .int .u32 x.next, .int .u32 x.prev, .int .u32 x.refs, .int .u64 x.expiry, .int .u16 x.typ, .int .i64 x.size, .int .u32 x.hash] := rfl
  rw [hxc] at hxx
  rw [hval] at hrt hen ⊢
  have HVX := Lib.hid hval
  clear hb hD hl hx hr hval hxc
  go_enter Tryd.func5, Tryd.ntmps5
  go_wp2_with fail
  with_reducible refine (hen _ (hT.alloc _)).mono ?_
  rintro e w1 ⟨g1, rfl, hG1, hg1, f1⟩
  have hT1 := (hT.alloc (.cells x.cells 26)).fr f1 (by simp)
  have hX1 := (Blk.new w 26 x.cells).fr f1 (by simp)
  have hF1 := ((Fr.refl [] w).alloc (.cells x.cells 26)).trans f1
  (have c0 := hX1.cell 0; have c1 := hX1.cell 1; have c2 := hX1.cell 2; have c3 := hX1.cell 3; have c4 := hX1.cell 4; have c5 := hX1.cell 5; have c6 := hX1.cell 6; have c7 := hX1.cell 7; have c8 := hX1.cell 8; have c9 := hX1.cell 9; have c10 := hX1.cell 10; have c11 := hX1.cell 11; simp [HB.cells] at c0 c1 c2 c3 c4 c5 c6 c7 c8 c9 c10 c11)
  go_wp2_with fail
  with_reducible refine (hrt _ hT1).mono ?_
  rintro e w2 ⟨rfl, f2⟩
  have hT2 := hT1.fr f2 (by simp)
  have hF2 := hF1.trans f2
  have hX2 := hX1.fr f2 (by simp)
  have hG2 := hG1.fr f2 (by simp)
  clear c0 c1 c2 c3 c4 c5 c6 c7 c8 c9 c10 c11
  clear f1 f2 hT1 hX1 hF1 hG1 hen hrt
  have hlenx := enc_len x
  have hszl := szZ_le x.tag
  have hO := OwnB.made (base := w2.heap.size) (Nat.le_refl _) (Blk.new w2 5 (bytes [])) (by simp)
  have hs1 : (Byt (w2.alloc (.cells (bytes []) 5)) (some ⟨g1, 0, none⟩) x.enc) := (hG2.alloc _).byt (enc_byte x) (by omega)
  have hl0 : ([] : List Nat).length + x.enc.length ≤ 1099511627776 := by simp; omega
  have tok1 : True := trivial
  have hs2 : ∀ W : World, Byt (W.alloc (.cells (bytes [9, 9]) 5)) (some ⟨W.heap.size, 0, none⟩) [9, 9] := fun W => (Blk.new W 5 (bytes [9, 9])).byt (by decide) (by decide)
  go_wp2_with (first
    | (at_builtin; have _t := tok1; refine wpList_app rfl _ _ rfl rfl w2.heap.size _ [] rfl hO _ _ _ x.enc hlenx rfl hs1 hl0 (by simp) ?_; intro v1 W1 hO1 hgr1 hob1; clear tok1; have hz1 := hgr1.size; have tok2 : True := trivial)
    | (at_builtin; have _t := tok2; refine wpList_app rfl _ _ rfl rfl w2.heap.size v1 _ rfl (hO1.alloc _) _ _ 2 [9, 9] rfl rfl (hs2 W1) (by simp; omega) (by simp at hz1 ⊢; omega) ?_; intro v2 W2 hO2 hgr2 hob2; clear tok2))
  have F1 : Fr [] w2 W1 := hO.fr hgr1 ((Fr.refl [] w2).alloc _) (Nat.le_refl _)
  have F2 : Fr [] w2 W2 := (hO1.alloc _).fr hgr2 (F1.alloc _) (Nat.le_refl _)
  have hdx : Calls Tryd.prog 11 #[v2] W2 fun e w' => e = .returned (.tuple #[x.val, .int .i64 0]) ∧ Fr [] W2 w' := by
    have hb2 : ∀ b ∈ [] ++ x.enc ++ [9, 9], b < 256 := fun b hb => by
      rw [List.nil_append] at hb
      rcases List.mem_append.1 hb with hb | hb
      · exact enc_byte x b hb
      · exact (by decide : ∀ b ∈ ([9, 9] : List Nat), b < 256) b hb
    obtain ⟨a2, k2, rfl, hby2, _⟩ := hO2.byt hb2 (by simp; omega)
    have := decode_any W2 (hT2.fr F2 (by simp)) a2 k2 _ hby2
    rw [List.nil_append] at this
    rw [List.nil_append]
    rw [dec_enc x HX.out HR.out [9, 9] (by decide)] at this
    exact this
  rw [HVX.out] at hdx
  have hT3 := hT2.fr F2 (by simp)
  have hF3 := hF2.trans F2
  have hX3 := hX2.fr F2 (by simp)
  clear hO hO1 hO2 hgr1 hgr2 hob1 hob2 hs1 hs2 hG2 hl0 hz1 F1 F2 hT2 hF2 hX2 hg1 hlenx
  with_reducible refine hdx.mono ?_
  rintro e w5 ⟨rfl, f5⟩
  have hT5 := (hT3.fr f5 (by simp)).alloc (.cells x.cells 26)
  have hF5 := (hF3.trans f5).alloc (.cells x.cells 26)
  have hX5 := hX3.fr f5 (by simp)
  have hlt5 := hX5.lt
  (have c0 := hX5.cell 0; have c1 := hX5.cell 1; have c2 := hX5.cell 2; have c3 := hX5.cell 3; have c4 := hX5.cell 4; have c5 := hX5.cell 5; have c6 := hX5.cell 6; have c7 := hX5.cell 7; have c8 := hX5.cell 8; have c9 := hX5.cell 9; have c10 := hX5.cell 10; have c11 := hX5.cell 11; simp [HB.cells] at c0 c1 c2 c3 c4 c5 c6 c7 c8 c9 c10 c11)
  clear f5 hT3 hF3 hX3 hdx hX5
  go_wp2_with fail
  change Calls Tryd.prog 17 _ (w5.alloc (.cells x.cells 26)) _
  with_reducible refine (hsz _ hT5).mono ?_
  rintro e w' ⟨rfl, rfl⟩
  have hTp := hT5
  have hFp := hF5
  clear hT5 hF5 hlt5 hxx
  clear c0 c1 c2 c3 c4 c5 c6 c7 c8 c9 c10 c11
  go_wp2_with fail
  change Calls Tryd.prog 11 _ (w5.alloc (.cells x.cells 26)) _
  generalize w5.alloc (.cells x.cells 26) = Wp at *
  clear hsz
  with_reducible refine (hde _ hTp _ (HB2.out.fr hFp (by simp))).mono ?_
  rintro e w7 ⟨rfl, f7⟩
  have hT7 := (hTp.fr f7 (by simp)).alloc (.cells D.cells 26)
  have hF7 := (hFp.trans f7).alloc (.cells D.cells 26)
  clear hde f7 hTp hFp
  go_wp2_with fail
  change Calls Tryd.prog 9 _ (w7.alloc (.cells D.cells 26)) _
  with_reducible refine (heq _ hT7).mono ?_
  rintro e w8 ⟨gq, rfl, hGq, hgq, f8⟩
  have hT8 := hT7.fr f8 (by simp)
  have hF8 := hF7.trans f8
  clear hT7 hF7 f8 heq hgq
  go_wp2_with fail
  have hT9 := hT8.fr (frDrew (S := [])) (by simp)
  have hF9 := hF8.trans (frDrew (S := []))
  have hQ9 := (hGq.byt HDE.out (by rw [enc_len]; omega)).fr (frDrew (S := [])) (by simp)
  have hBy := fun W (hf : Fr [] w W) => HB2.out.fr hf (by simp)
  have hle := enc_len D
  obtain ⟨sq, hsq⟩ : ∃ sq, sq = szZ D.tag := ⟨_, rfl⟩
  rw [← hsq] at hDl hszD hpos hle ⊢
  have hrh := run_head ga oa n c sq (by omega)
  have htk : ∀ W, Fr [] w W → Byt W (some ⟨ga, oa, none⟩) D.enc := fun W hf => by
    have hby := hBy W hf
    have ht : D.enc = l.take sq := by rw [hsq]; exact HDT.out
    rw [ht]
    refine ⟨fun i hi => ?_, fun b hb => hby.byte b (List.mem_of_mem_take hb), Nat.le_trans (List.length_take_le' _ _) hby.len⟩
    rw [List.length_take] at hi
    obtain ⟨g, o, e, hc, hg⟩ := hby.at_ i (by omega)
    exact ⟨g, o, e, by rw [List.getElem?_take_of_lt (by omega)]; exact hc, hg⟩
  have hs1 : ∀ W, Byt W (some ⟨gq, 0, none⟩) D.enc → (convert 27 9 (.slice (some ⟨gq, 0, none⟩) sq sq)).run Tryd.prog W = .ok (.string (strOf D.enc)) W := fun W h => by
    have := conv_str W (some ⟨gq, 0, none⟩) sq D.enc h
    rwa [hle] at this
  have hs2 : ∀ W, Fr [] w W → (convert 27 9 (.slice (some ⟨ga, oa, none⟩) sq c)).run Tryd.prog W = .ok (.string (strOf D.enc)) W := fun W hf => by
    have := conv_str W (some ⟨ga, oa, none⟩) c D.enc (htk W hf)
    rwa [hle] at this
  generalize strOf D.enc = s at *
  have hse : (s.toList == s.toList) = true := beq_self_eq_true _
  have sa := hs1 _ hQ9
  have sb := hs2 _ hF9
  have b7 : decide (sq ≤ n) = true := by simpa using hDl
  have b8 : decide ((sq : Int) ≤ n) = true := by simp; omega
  have hsqc : sq ≤ c := by omega
  have HSQ := Lib.hid hsq
  have HLE := Lib.hid hle
  clear hT8 hF8 hGq hBy hle hsq htk hst
  go_region_held3 (fun w' => (convert 27 9 (.slice (some ⟨gq, 0, none⟩) sq sq)).run Tryd.prog w' = .ok (.string s) w' ∧ (convert 27 9 (.slice (some ⟨ga, oa, none⟩) sq c)).run Tryd.prog w' = .ok (.string s) w') (exact ⟨sa, sb⟩)
    (first
      | (go_at_call 8; with_reducible refine (h5 _ hT9).mono ?_; rintro e W5 ⟨rfl, f9⟩; have hF10 := hF9.trans f9; have hQ10 := hQ9.fr f9 (by simp); have sa := hs1 _ hQ10; have sb := hs2 _ hF10))
  go_wp2_with fail
  go_ret
  exact ⟨rfl, hF10⟩

set_option maxRecDepth 100000 in
set_option maxHeartbeats 8000000 in
theorem back_11 (w : World) (hT : Tabs w) (x : HB) (hx : x.Ok) (a : Option Addr) (c n : Nat) (l : List Nat) (hb : Byt w a l) (hl : l.length = n) (h : n ≤ 600) (hnc : n ≤ c) (hr : x.right = true) (er : Nat) (her : er ≠ 0) (hD : dec l = (er, HB.zero)) :
    Calls Tryd.prog 5 #[x.val, .slice a n c] w fun e w' => e = .returned (.bool true) ∧ Fr [] w w' := by
  have h5 := heads_any
  have b1 : decide (600 < n) = false := by simpa using h
  have hrt := fun W h => right_any W h x hx
  rw [hr] at hrt
  have hde := fun W h c hb => decode_any W h a c l hb
  rw [hD, hl] at hde
  unfold decV at hde
  have hsz := fun W h => size_any W h x.tag
  have hval : x.val = .agg #[.int .i64 x.tag, .int .i64 x.cls, .bool x.used, .int .i64 x.label, .int .u32 x.name, .int .u32 x.next, .int .u32 x.prev, .int .u32 x.refs, .int .u64 x.expiry, .int .u16 x.typ, .int .i64 x.size, .int .u32 x.hash] := rfl
  have HB2 := Lib.hid hb
  have HL := Lib.hid hl
  have HX := Lib.hid hx
  have HR := Lib.hid hr
  have hz0 : HB.zero.val = .agg #[.int .i64 0, .int .i64 0, .bool false, .int .i64 0, .int .u32 0, .int .u32 0, .int .u32 0, .int .u32 0, .int .u64 0, .int .u16 0, .int .i64 0, .int .u32 0] := rfl
  simp only [hz0] at hde
  have hE0 : ∀ w, (Op.equalIn 10000 26 (.agg #[.int .i64 0, .int .i64 0, .bool false, .int .i64 0, .int .u32 0, .int .u32 0, .int .u32 0, .int .u32 0, .int .u64 0, .int .u16 0, .int .i64 0, .int .u32 0]) (.agg #[.int .i64 0, .int .i64 0, .bool false, .int .i64 0, .int .u32 0, .int .u32 0, .int .u32 0, .int .u32 0, .int .u64 0, .int .u16 0, .int .i64 0, .int .u32 0])).run Tryd.prog w = .ok true w := fun w => by
    have := eq_head HB.zero HB.zero w
    rw [show HB.zero.same HB.zero = true from rfl] at this
    exact this
  have he0 : ((er : Int) != 0) = true := by simp; omega
  clear her hz0
  have hen := fun W h => encode_yes W h x hx hr
  unfold EncP at hen
  have hxx := fun w => eq_head x x w
  rw [show (x.same x) = true by rw [HB.same_iff]] at hxx
  have hxc : x.cells = #[.int .i64 x.tag, .int .i64 x.cls, .bool x.used, .int .i64 x.label, .int .u32 x.name, .int .u32 x.next, .int .u32 x.prev, .int .u32 x.refs, .int .u64 x.expiry, .int .u16 x.typ, .int .i64 x.size, .int .u32 x.hash] := rfl
  rw [hxc] at hxx
  rw [hval] at hrt hen ⊢
  have HVX := Lib.hid hval
  clear hb hD hl hx hr hval hxc
  go_enter Tryd.func5, Tryd.ntmps5
  go_wp2_with fail
  with_reducible refine (hen _ (hT.alloc _)).mono ?_
  rintro e w1 ⟨g1, rfl, hG1, hg1, f1⟩
  have hT1 := (hT.alloc (.cells x.cells 26)).fr f1 (by simp)
  have hX1 := (Blk.new w 26 x.cells).fr f1 (by simp)
  have hF1 := ((Fr.refl [] w).alloc (.cells x.cells 26)).trans f1
  (have c0 := hX1.cell 0; have c1 := hX1.cell 1; have c2 := hX1.cell 2; have c3 := hX1.cell 3; have c4 := hX1.cell 4; have c5 := hX1.cell 5; have c6 := hX1.cell 6; have c7 := hX1.cell 7; have c8 := hX1.cell 8; have c9 := hX1.cell 9; have c10 := hX1.cell 10; have c11 := hX1.cell 11; simp [HB.cells] at c0 c1 c2 c3 c4 c5 c6 c7 c8 c9 c10 c11)
  go_wp2_with fail
  with_reducible refine (hrt _ hT1).mono ?_
  rintro e w2 ⟨rfl, f2⟩
  have hT2 := hT1.fr f2 (by simp)
  have hF2 := hF1.trans f2
  have hX2 := hX1.fr f2 (by simp)
  have hG2 := hG1.fr f2 (by simp)
  clear c0 c1 c2 c3 c4 c5 c6 c7 c8 c9 c10 c11
  clear f1 f2 hT1 hX1 hF1 hG1 hen hrt
  have hlenx := enc_len x
  have hszl := szZ_le x.tag
  have hO := OwnB.made (base := w2.heap.size) (Nat.le_refl _) (Blk.new w2 5 (bytes [])) (by simp)
  have hs1 : (Byt (w2.alloc (.cells (bytes []) 5)) (some ⟨g1, 0, none⟩) x.enc) := (hG2.alloc _).byt (enc_byte x) (by omega)
  have hl0 : ([] : List Nat).length + x.enc.length ≤ 1099511627776 := by simp; omega
  have tok1 : True := trivial
  have hs2 : ∀ W : World, Byt (W.alloc (.cells (bytes [9, 9]) 5)) (some ⟨W.heap.size, 0, none⟩) [9, 9] := fun W => (Blk.new W 5 (bytes [9, 9])).byt (by decide) (by decide)
  go_wp2_with (first
    | (at_builtin; have _t := tok1; refine wpList_app rfl _ _ rfl rfl w2.heap.size _ [] rfl hO _ _ _ x.enc hlenx rfl hs1 hl0 (by simp) ?_; intro v1 W1 hO1 hgr1 hob1; clear tok1; have hz1 := hgr1.size; have tok2 : True := trivial)
    | (at_builtin; have _t := tok2; refine wpList_app rfl _ _ rfl rfl w2.heap.size v1 _ rfl (hO1.alloc _) _ _ 2 [9, 9] rfl rfl (hs2 W1) (by simp; omega) (by simp at hz1 ⊢; omega) ?_; intro v2 W2 hO2 hgr2 hob2; clear tok2))
  have F1 : Fr [] w2 W1 := hO.fr hgr1 ((Fr.refl [] w2).alloc _) (Nat.le_refl _)
  have F2 : Fr [] w2 W2 := (hO1.alloc _).fr hgr2 (F1.alloc _) (Nat.le_refl _)
  have hdx : Calls Tryd.prog 11 #[v2] W2 fun e w' => e = .returned (.tuple #[x.val, .int .i64 0]) ∧ Fr [] W2 w' := by
    have hb2 : ∀ b ∈ [] ++ x.enc ++ [9, 9], b < 256 := fun b hb => by
      rw [List.nil_append] at hb
      rcases List.mem_append.1 hb with hb | hb
      · exact enc_byte x b hb
      · exact (by decide : ∀ b ∈ ([9, 9] : List Nat), b < 256) b hb
    obtain ⟨a2, k2, rfl, hby2, _⟩ := hO2.byt hb2 (by simp; omega)
    have := decode_any W2 (hT2.fr F2 (by simp)) a2 k2 _ hby2
    rw [List.nil_append] at this
    rw [List.nil_append]
    rw [dec_enc x HX.out HR.out [9, 9] (by decide)] at this
    exact this
  rw [HVX.out] at hdx
  have hT3 := hT2.fr F2 (by simp)
  have hF3 := hF2.trans F2
  have hX3 := hX2.fr F2 (by simp)
  clear hO hO1 hO2 hgr1 hgr2 hob1 hob2 hs1 hs2 hG2 hl0 hz1 F1 F2 hT2 hF2 hX2 hg1 hlenx
  with_reducible refine hdx.mono ?_
  rintro e w5 ⟨rfl, f5⟩
  have hT5 := (hT3.fr f5 (by simp)).alloc (.cells x.cells 26)
  have hF5 := (hF3.trans f5).alloc (.cells x.cells 26)
  have hX5 := hX3.fr f5 (by simp)
  have hlt5 := hX5.lt
  (have c0 := hX5.cell 0; have c1 := hX5.cell 1; have c2 := hX5.cell 2; have c3 := hX5.cell 3; have c4 := hX5.cell 4; have c5 := hX5.cell 5; have c6 := hX5.cell 6; have c7 := hX5.cell 7; have c8 := hX5.cell 8; have c9 := hX5.cell 9; have c10 := hX5.cell 10; have c11 := hX5.cell 11; simp [HB.cells] at c0 c1 c2 c3 c4 c5 c6 c7 c8 c9 c10 c11)
  clear f5 hT3 hF3 hX3 hdx hX5
  go_wp2_with fail
  change Calls Tryd.prog 17 _ (w5.alloc (.cells x.cells 26)) _
  with_reducible refine (hsz _ hT5).mono ?_
  rintro e w' ⟨rfl, rfl⟩
  have hTp := hT5
  have hFp := hF5
  clear hT5 hF5 hlt5 hxx
  clear c0 c1 c2 c3 c4 c5 c6 c7 c8 c9 c10 c11
  go_wp2_with fail
  change Calls Tryd.prog 11 _ (w5.alloc (.cells x.cells 26)) _
  generalize w5.alloc (.cells x.cells 26) = Wp at *
  clear hsz
  with_reducible refine (hde _ hTp _ (HB2.out.fr hFp (by simp))).mono ?_
  rintro e w7 ⟨rfl, f7⟩
  have hT7 := (hTp.fr f7 (by simp)).alloc (.cells #[.int .i64 0, .int .i64 0, .bool false, .int .i64 0, .int .u32 0, .int .u32 0, .int .u32 0, .int .u32 0, .int .u64 0, .int .u16 0, .int .i64 0, .int .u32 0] 26)
  have hF7 := (hFp.trans f7).alloc (.cells #[.int .i64 0, .int .i64 0, .bool false, .int .i64 0, .int .u32 0, .int .u32 0, .int .u32 0, .int .u32 0, .int .u64 0, .int .u16 0, .int .i64 0, .int .u32 0] 26)
  clear hde f7 hTp hFp
  go_wp2_with fail
  with_reducible refine (h5 _ hT7).mono ?_
  rintro e w8 ⟨rfl, f8⟩
  have F8 := hF7.trans f8
  go_wp2_with fail
  go_ret
  exact ⟨rfl, F8⟩

theorem walk_back (w : World) (hT : Tabs w) (x : HB) (hx : x.Ok) (a : Option Addr) (c : Nat) (l : List Nat) (hb : BytA w a c l) :
    Calls Tryd.prog 5 #[x.val, .slice a l.length c] w fun e w' => e = .returned (.bool true) ∧ Fr [] w w' := by
  by_cases h : 600 < l.length
  · exact back_long w hT x a c l.length hb.len h
  have hby := hb.byt (by omega)
  by_cases he : (dec l).1 = 0
  · have hD : dec l = (0, (dec l).2) := by rw [← he]
    cases hr : x.right
    · exact back_00 w hT x hx a c l.length l hby rfl (by omega) hb.cap hr _ hD
    · exact back_10 w hT x hx a c l.length l hby rfl (by omega) hb.cap hr _ hD
  · have hD : dec l = ((dec l).1, HB.zero) := by rw [← dec_bad l he]
    cases hr : x.right
    · exact back_01 w hT x hx a c l.length l hby rfl (by omega) hb.cap hr _ he hD
    · exact back_11 w hT x hx a c l.length l hby rfl (by omega) hb.cap hr _ he hD
end Go.Proofs.YtagnelfnjlfhnaaDoor
