/- The walk of HeadCodes. -/
import Derived.Test.YtagnelfnjlfhnaaDoorXEnc
import Derived.Test.YtagnelfnjlfhnaaDoorXDec2
import Derived.Test.YtagnelfnjlfhnaaDoorOpen13
import Derived.Deep.RegionHeld3
namespace Go.Proofs.YtagnelfnjlfhnaaDoor
set_option linter.unusedVariables false
open Go.RowKit

def HB.encL (x : HB) : List Nat := if x.right then x.enc else []
def HB.encE (x : HB) : Nat := if x.right then 0 else 2
def EncA (x : HB) (w : World) (e : Ending) (w' : World) : Prop :=
  ∃ a c, e = .returned (.tuple #[.slice a x.encL.length c, .int .i64 x.encE]) ∧ Byt w' a x.encL ∧ (∀ g o, a = some ⟨g, o, none⟩ → w.heap.size ≤ g) ∧ Fr [] w w'
theorem enc_byte (x : HB) : ∀ b ∈ x.enc, b < 256 := encTo_byte x 12
theorem enc_len (x : HB) : x.enc.length = szZ x.tag := encTo_len x 12
theorem encL_byte (x : HB) : ∀ b ∈ x.encL, b < 256 := by
  unfold HB.encL; split
  · exact enc_byte x
  · simp
theorem encA_of (x : HB) (w : World) (F : FuncId) (hy : x.right = true → Calls Tryd.prog F #[x.val] w (EncP x w)) (hn : x.right = false → Calls Tryd.prog F #[x.val] w fun e w' => e = .returned (.tuple #[.slice none 0 0, .int .i64 2]) ∧ Fr [] w w') :
    Calls Tryd.prog F #[x.val] w (EncA x w) := by
  unfold EncA HB.encL HB.encE
  rcases h : x.right with _ | _
  · refine (hn h).mono fun e w' ⟨he, hf⟩ => ⟨none, 0, he, ⟨fun i hi => by simp at hi, fun b hb => by simp at hb, by simp⟩, fun g o h => by simp at h, hf⟩
  · refine (hy h).mono fun e w' ⟨g, he, hB, hg, hf⟩ => ⟨some ⟨g, 0, none⟩, szZ x.tag, ?_, hB.byt (enc_byte x) (by rw [enc_len]; have := szZ_le x.tag; omega), fun g' o h => by injection h with h; injection h with h1 h2; omega, hf⟩
    rw [he, if_pos rfl, if_pos rfl, enc_len]
    rfl
theorem encode_all (w : World) (hT : Tabs w) (x : HB) (hx : x.Ok) : Calls Tryd.prog 9 #[x.val] w (EncA x w) :=
  encA_of x w _ (encode_yes w hT x hx) (encode_no w hT x hx)
theorem xencode_all (w : World) (x : HB) (hx : x.Ok) : Calls Tryd.prog 10 #[x.val] w (EncA x w) :=
  encA_of x w _ (xencode_yes w x hx) (xencode_no w x hx)

theorem codes_long (w : World) (hT : Tabs w) (x : HB) (a : Option Addr) (c n : Nat) (hn : n ≤ 9223372036854775807) (h : 600 < n) :
    Calls Tryd.prog 3 #[x.val, .slice a n c] w fun e w' => e = .returned (.bool true) ∧ Fr [] w w' := by
  have h5 := heads_any
  have b1 : decide (600 < n) = true := by simpa using h
  have hval : x.val = .agg #[.int .i64 x.tag, .int .i64 x.cls, .bool x.used, .int .i64 x.label, .int .u32 x.name, .int .u32 x.next, .int .u32 x.prev, .int .u32 x.refs, .int .u64 x.expiry, .int .u16 x.typ, .int .i64 x.size, .int .u32 x.hash] := rfl
  rw [hval]
  clear hval
  go_enter Tryd.func3, Tryd.ntmps3
  go_wp2_with fail
  with_reducible refine (h5 _ (hT.alloc _)).mono ?_
  rintro e w4 ⟨rfl, f4⟩
  have F4 := ((Fr.refl [] w).alloc _).trans f4
  go_wp2_with fail
  go_ret
  exact ⟨rfl, F4⟩

set_option maxRecDepth 100000 in
set_option maxHeartbeats 8000000 in
theorem codes_in (w : World) (hT : Tabs w) (x : HB) (hx : x.Ok) (a : Option Addr) (c n : Nat) (l : List Nat) (hb : Byt w a l) (hl : l.length = n) (h : n ≤ 600) :
    Calls Tryd.prog 3 #[x.val, .slice a n c] w fun e w' => e = .returned (.bool true) ∧ Fr [] w w' := by
  have h5 := heads_any
  have b1 : decide (600 < n) = false := by simpa using h
  have hen := fun W h => encode_all W h x hx
  have hxe := fun W => xencode_all W x hx
  have hrt := fun W h => right_any W h x hx
  have hxr := fun W => xright_any W x hx
  have hde := fun W h c hb => decode_any W h a c l hb
  have hxd := fun W c hb => xdecode_any W a c l hb
  have hE := fun w => eq_head (dec l).2 (dec l).2 w
  rw [show ((dec l).2.same (dec l).2) = true by rw [HB.same_iff]] at hE
  unfold decV at hde hxd
  unfold EncA at hen hxe
  have hst := fun W a c => conv_str W a c x.encL
  generalize x.encL = L at *
  generalize x.encE = le at *
  rw [hl] at hde hxd
  generalize (dec l).1 = er at *
  generalize (dec l).2 = D at *
  have hDv : D.val = .agg #[.int .i64 D.tag, .int .i64 D.cls, .bool D.used, .int .i64 D.label, .int .u32 D.name, .int .u32 D.next, .int .u32 D.prev, .int .u32 D.refs, .int .u64 D.expiry, .int .u16 D.typ, .int .i64 D.size, .int .u32 D.hash] := rfl
  have hDc : D.cells = #[.int .i64 D.tag, .int .i64 D.cls, .bool D.used, .int .i64 D.label, .int .u32 D.name, .int .u32 D.next, .int .u32 D.prev, .int .u32 D.refs, .int .u64 D.expiry, .int .u16 D.typ, .int .i64 D.size, .int .u32 D.hash] := rfl
  rw [hDv] at hde hxd
  rw [hDc] at hE
  generalize x.right = r at *
  have hval : x.val = .agg #[.int .i64 x.tag, .int .i64 x.cls, .bool x.used, .int .i64 x.label, .int .u32 x.name, .int .u32 x.next, .int .u32 x.prev, .int .u32 x.refs, .int .u64 x.expiry, .int .u16 x.typ, .int .i64 x.size, .int .u32 x.hash] := rfl
  rw [hval] at hen hxe hrt hxr ⊢
  have HB2 := Lib.hid hb
  have hal : ∀ g o, a = some ⟨g, o, none⟩ → g < w.heap.size ∨ l.length = 0 := fun g o e => by
    by_cases h0 : l.length = 0
    · exact .inr h0
    · obtain ⟨g', o', e', _, hlt⟩ := hb.at_ 0 (by omega)
      rw [e] at e'
      injection e' with e'
      injection e' with e1 e2
      subst e1
      exact .inl hlt
  clear hval hx hDv hDc hl hb hal
  go_enter Tryd.func3, Tryd.ntmps3
  go_wp2_with fail
  with_reducible refine (hen _ (hT.alloc _)).mono ?_
  rintro e w1 ⟨a1, k1, rfl, hL1, hg1, f1⟩
  have hT1 := (hT.alloc (.cells x.cells 26)).fr f1 (by simp)
  have hX1 := (Blk.new w 26 x.cells).fr f1 (by simp)
  have hF1 := ((Fr.refl [] w).alloc (.cells x.cells 26)).trans f1
  clear f1 hen hg1
  (have c0 := hX1.cell 0; have c1 := hX1.cell 1; have c2 := hX1.cell 2; have c3 := hX1.cell 3; have c4 := hX1.cell 4; have c5 := hX1.cell 5; have c6 := hX1.cell 6; have c7 := hX1.cell 7; have c8 := hX1.cell 8; have c9 := hX1.cell 9; have c10 := hX1.cell 10; have c11 := hX1.cell 11; simp [HB.cells] at c0 c1 c2 c3 c4 c5 c6 c7 c8 c9 c10 c11)
  go_wp2_with fail
  with_reducible refine (hxe _).mono ?_
  rintro e w2 ⟨a2, k2, rfl, hL2, hg2, f2⟩
  have hT2 := hT1.fr f2 (by simp)
  have hX2 := hX1.fr f2 (by simp)
  have hF2 := hF1.trans f2
  have hL12 := hL1.fr f2 (by simp)
  clear f2 hxe hg2 hT1 hX1 hF1 hL1
  clear c0 c1 c2 c3 c4 c5 c6 c7 c8 c9 c10 c11
  go_wp2_with fail
  with_reducible refine (hde _ hT2 _ (HB2.out.fr hF2 (by simp))).mono ?_
  rintro e w3 ⟨rfl, f3⟩
  have hT3 := (hT2.fr f3 (by simp)).alloc (.cells D.cells 26)
  have hX3 := (hX2.fr f3 (by simp)).alloc (.cells D.cells 26)
  have hF3 := (hF2.trans f3).alloc (.cells D.cells 26)
  have hL13 := (hL12.fr f3 (by simp)).fr ((Fr.refl [] _).alloc (.cells D.cells 26)) (by simp)
  have hL23 := (hL2.fr f3 (by simp)).fr ((Fr.refl [] _).alloc (.cells D.cells 26)) (by simp)
  have hY3 : Blk (w3.alloc (.cells D.cells 26)) w3.heap.size 26 D.cells := Blk.new _ _ _
  clear f3 hde hT2 hX2 hF2 hL12 hL2
  go_wp2_with fail
  change Calls Tryd.prog 12 _ (w3.alloc (.cells D.cells 26)) _
  with_reducible refine (hxd _ _ (HB2.out.fr hF3 (by simp))).mono ?_
  rintro e w4 ⟨rfl, f4⟩
  have hT4 := (hT3.fr f4 (by simp)).alloc (.cells D.cells 26)
  have hX4 := (hX3.fr f4 (by simp)).alloc (.cells D.cells 26)
  have hF4 := (hF3.trans f4).alloc (.cells D.cells 26)
  have hL14 := (hL13.fr f4 (by simp)).fr ((Fr.refl [] _).alloc (.cells D.cells 26)) (by simp)
  have hL24 := (hL23.fr f4 (by simp)).fr ((Fr.refl [] _).alloc (.cells D.cells 26)) (by simp)
  have hY4 := (hY3.fr f4 (by simp)).alloc (.cells D.cells 26)
  have hZ4 : Blk (w4.alloc (.cells D.cells 26)) w4.heap.size 26 D.cells := Blk.new _ _ _
  clear f4 hxd hT3 hX3 hF3 hL13 hL23 hY3
  go_wp2_with fail
  generalize w3.heap.size = p9 at *
  generalize w4.heap.size = p11 at *
  change Code.wp _ _ _ _ (w4.alloc (.cells D.cells 26))
  generalize w4.alloc (.cells D.cells 26) = w5 at *
  have hs1 := fun W h => hst W a1 k1 h
  have hs2 := fun W h => hst W a2 k2 h
  clear hst
  generalize hln : L.length = ln at *
  generalize strOf L = s at *
  have hse : (s.toList == s.toList) = true := beq_self_eq_true _
  have HLN := Lib.hid hln
  clear hln HB2
  have hT5 := hT4.fr (frDrew (S := [])) (by simp)
  have hF5 := hF4.trans (frDrew (S := []))
  have hX5 := hX4.fr (frDrew (S := [])) (by simp)
  have hY5 := hY4.fr (frDrew (S := [])) (by simp)
  have hZ5 := hZ4.fr (frDrew (S := [])) (by simp)
  have hP5 := hL14.fr (frDrew (S := [])) (by simp)
  have hQ5 := hL24.fr (frDrew (S := [])) (by simp)
  have sa := hs1 _ hP5
  have sb := hs2 _ hQ5
  clear hT4 hF4
  (have c0 := hX4.cell 0; have c1 := hX4.cell 1; have c2 := hX4.cell 2; have c3 := hX4.cell 3; have c4 := hX4.cell 4; have c5 := hX4.cell 5; have c6 := hX4.cell 6; have c7 := hX4.cell 7; have c8 := hX4.cell 8; have c9 := hX4.cell 9; have c10 := hX4.cell 10; have c11 := hX4.cell 11; simp [HB.cells] at c0 c1 c2 c3 c4 c5 c6 c7 c8 c9 c10 c11)
  (have d0 := hY4.cell 0; have d1 := hY4.cell 1; have d2 := hY4.cell 2; have d3 := hY4.cell 3; have d4 := hY4.cell 4; have d5 := hY4.cell 5; have d6 := hY4.cell 6; have d7 := hY4.cell 7; have d8 := hY4.cell 8; have d9 := hY4.cell 9; have d10 := hY4.cell 10; have d11 := hY4.cell 11; simp [HB.cells] at d0 d1 d2 d3 d4 d5 d6 d7 d8 d9 d10 d11)
  (have e0 := hZ4.cell 0; have e1 := hZ4.cell 1; have e2 := hZ4.cell 2; have e3 := hZ4.cell 3; have e4 := hZ4.cell 4; have e5 := hZ4.cell 5; have e6 := hZ4.cell 6; have e7 := hZ4.cell 7; have e8 := hZ4.cell 8; have e9 := hZ4.cell 9; have e10 := hZ4.cell 10; have e11 := hZ4.cell 11; simp [HB.cells] at e0 e1 e2 e3 e4 e5 e6 e7 e8 e9 e10 e11)
  clear hX4 hY4 hZ4 hL14 hL24
  have hs1w := hs1
  go_region_held3 (fun w' => w'.cell? ⟨w.heap.size, 0, none⟩ = some (Value.int .i64 x.tag) ∧ w'.cell? ⟨w.heap.size, 1, none⟩ = some (Value.int .i64 x.cls) ∧ w'.cell? ⟨w.heap.size, 2, none⟩ = some (Value.bool x.used) ∧ w'.cell? ⟨w.heap.size, 3, none⟩ = some (Value.int .i64 x.label) ∧ w'.cell? ⟨w.heap.size, 4, none⟩ = some (Value.int .u32 x.name) ∧ w'.cell? ⟨w.heap.size, 5, none⟩ = some (Value.int .u32 x.next) ∧ w'.cell? ⟨w.heap.size, 6, none⟩ = some (Value.int .u32 x.prev) ∧ w'.cell? ⟨w.heap.size, 7, none⟩ = some (Value.int .u32 x.refs) ∧ w'.cell? ⟨w.heap.size, 8, none⟩ = some (Value.int .u64 x.expiry) ∧ w'.cell? ⟨w.heap.size, 9, none⟩ = some (Value.int .u16 x.typ) ∧ w'.cell? ⟨w.heap.size, 10, none⟩ = some (Value.int .i64 x.size) ∧ w'.cell? ⟨w.heap.size, 11, none⟩ = some (Value.int .u32 x.hash) ∧ w'.cell? ⟨p9, 0, none⟩ = some (Value.int .i64 D.tag) ∧ w'.cell? ⟨p9, 1, none⟩ = some (Value.int .i64 D.cls) ∧ w'.cell? ⟨p9, 2, none⟩ = some (Value.bool D.used) ∧ w'.cell? ⟨p9, 3, none⟩ = some (Value.int .i64 D.label) ∧ w'.cell? ⟨p9, 4, none⟩ = some (Value.int .u32 D.name) ∧ w'.cell? ⟨p9, 5, none⟩ = some (Value.int .u32 D.next) ∧ w'.cell? ⟨p9, 6, none⟩ = some (Value.int .u32 D.prev) ∧ w'.cell? ⟨p9, 7, none⟩ = some (Value.int .u32 D.refs) ∧ w'.cell? ⟨p9, 8, none⟩ = some (Value.int .u64 D.expiry) ∧ w'.cell? ⟨p9, 9, none⟩ = some (Value.int .u16 D.typ) ∧ w'.cell? ⟨p9, 10, none⟩ = some (Value.int .i64 D.size) ∧ w'.cell? ⟨p9, 11, none⟩ = some (Value.int .u32 D.hash) ∧ w'.cell? ⟨p11, 0, none⟩ = some (Value.int .i64 D.tag) ∧ w'.cell? ⟨p11, 1, none⟩ = some (Value.int .i64 D.cls) ∧ w'.cell? ⟨p11, 2, none⟩ = some (Value.bool D.used) ∧ w'.cell? ⟨p11, 3, none⟩ = some (Value.int .i64 D.label) ∧ w'.cell? ⟨p11, 4, none⟩ = some (Value.int .u32 D.name) ∧ w'.cell? ⟨p11, 5, none⟩ = some (Value.int .u32 D.next) ∧ w'.cell? ⟨p11, 6, none⟩ = some (Value.int .u32 D.prev) ∧ w'.cell? ⟨p11, 7, none⟩ = some (Value.int .u32 D.refs) ∧ w'.cell? ⟨p11, 8, none⟩ = some (Value.int .u64 D.expiry) ∧ w'.cell? ⟨p11, 9, none⟩ = some (Value.int .u16 D.typ) ∧ w'.cell? ⟨p11, 10, none⟩ = some (Value.int .i64 D.size) ∧ w'.cell? ⟨p11, 11, none⟩ = some (Value.int .u32 D.hash) ∧ (convert 27 9 (.slice a1 ln k1)).run Tryd.prog w' = .ok (.string s) w' ∧ (convert 27 9 (.slice a2 ln k2)).run Tryd.prog w' = .ok (.string s) w') (exact ⟨c0, c1, c2, c3, c4, c5, c6, c7, c8, c9, c10, c11, d0, d1, d2, d3, d4, d5, d6, d7, d8, d9, d10, d11, e0, e1, e2, e3, e4, e5, e6, e7, e8, e9, e10, e11, sa, sb⟩)
    (first
      | (go_at_call 13; with_reducible refine (hrt _ hT5).mono ?_; rintro e W6 ⟨rfl, f6⟩; have hT6 := hT5.fr f6 (by simp); have hF6 := hF5.trans f6; have hX6 := hX5.fr f6 (by simp); have hY6 := hY5.fr f6 (by simp); have hZ6 := hZ5.fr f6 (by simp); have hP6 := hP5.fr f6 (by simp); have hQ6 := hQ5.fr f6 (by simp); have sa := hs1 _ hP6; have sb := hs2 _ hQ6; (have c0 := hX6.cell 0; have c1 := hX6.cell 1; have c2 := hX6.cell 2; have c3 := hX6.cell 3; have c4 := hX6.cell 4; have c5 := hX6.cell 5; have c6 := hX6.cell 6; have c7 := hX6.cell 7; have c8 := hX6.cell 8; have c9 := hX6.cell 9; have c10 := hX6.cell 10; have c11 := hX6.cell 11; simp [HB.cells] at c0 c1 c2 c3 c4 c5 c6 c7 c8 c9 c10 c11); (have d0 := hY6.cell 0; have d1 := hY6.cell 1; have d2 := hY6.cell 2; have d3 := hY6.cell 3; have d4 := hY6.cell 4; have d5 := hY6.cell 5; have d6 := hY6.cell 6; have d7 := hY6.cell 7; have d8 := hY6.cell 8; have d9 := hY6.cell 9; have d10 := hY6.cell 10; have d11 := hY6.cell 11; simp [HB.cells] at d0 d1 d2 d3 d4 d5 d6 d7 d8 d9 d10 d11); (have e0 := hZ6.cell 0; have e1 := hZ6.cell 1; have e2 := hZ6.cell 2; have e3 := hZ6.cell 3; have e4 := hZ6.cell 4; have e5 := hZ6.cell 5; have e6 := hZ6.cell 6; have e7 := hZ6.cell 7; have e8 := hZ6.cell 8; have e9 := hZ6.cell 9; have e10 := hZ6.cell 10; have e11 := hZ6.cell 11; simp [HB.cells] at e0 e1 e2 e3 e4 e5 e6 e7 e8 e9 e10 e11))
      | (go_at_call 14; with_reducible refine (hxr _).mono ?_; rintro e W7 ⟨rfl, f7⟩; have hT7 := hT6.fr f7 (by simp); have hF7 := hF6.trans f7; have hX7 := hX6.fr f7 (by simp); have hY7 := hY6.fr f7 (by simp); have hZ7 := hZ6.fr f7 (by simp); have hP7 := hP6.fr f7 (by simp); have hQ7 := hQ6.fr f7 (by simp); have sa := hs1 _ hP7; have sb := hs2 _ hQ7; (have c0 := hX7.cell 0; have c1 := hX7.cell 1; have c2 := hX7.cell 2; have c3 := hX7.cell 3; have c4 := hX7.cell 4; have c5 := hX7.cell 5; have c6 := hX7.cell 6; have c7 := hX7.cell 7; have c8 := hX7.cell 8; have c9 := hX7.cell 9; have c10 := hX7.cell 10; have c11 := hX7.cell 11; simp [HB.cells] at c0 c1 c2 c3 c4 c5 c6 c7 c8 c9 c10 c11); (have d0 := hY7.cell 0; have d1 := hY7.cell 1; have d2 := hY7.cell 2; have d3 := hY7.cell 3; have d4 := hY7.cell 4; have d5 := hY7.cell 5; have d6 := hY7.cell 6; have d7 := hY7.cell 7; have d8 := hY7.cell 8; have d9 := hY7.cell 9; have d10 := hY7.cell 10; have d11 := hY7.cell 11; simp [HB.cells] at d0 d1 d2 d3 d4 d5 d6 d7 d8 d9 d10 d11); (have e0 := hZ7.cell 0; have e1 := hZ7.cell 1; have e2 := hZ7.cell 2; have e3 := hZ7.cell 3; have e4 := hZ7.cell 4; have e5 := hZ7.cell 5; have e6 := hZ7.cell 6; have e7 := hZ7.cell 7; have e8 := hZ7.cell 8; have e9 := hZ7.cell 9; have e10 := hZ7.cell 10; have e11 := hZ7.cell 11; simp [HB.cells] at e0 e1 e2 e3 e4 e5 e6 e7 e8 e9 e10 e11))
      | (go_at_call 8; with_reducible refine (h5 _ hT7).mono ?_; rintro e W8 ⟨rfl, f8⟩; have hT8 := hT7.fr f8 (by simp); have hF8 := hF7.trans f8; have hX8 := hX7.fr f8 (by simp); have hY8 := hY7.fr f8 (by simp); have hZ8 := hZ7.fr f8 (by simp); have hP8 := hP7.fr f8 (by simp); have hQ8 := hQ7.fr f8 (by simp); have sa := hs1 _ hP8; have sb := hs2 _ hQ8; (have c0 := hX8.cell 0; have c1 := hX8.cell 1; have c2 := hX8.cell 2; have c3 := hX8.cell 3; have c4 := hX8.cell 4; have c5 := hX8.cell 5; have c6 := hX8.cell 6; have c7 := hX8.cell 7; have c8 := hX8.cell 8; have c9 := hX8.cell 9; have c10 := hX8.cell 10; have c11 := hX8.cell 11; simp [HB.cells] at c0 c1 c2 c3 c4 c5 c6 c7 c8 c9 c10 c11); (have d0 := hY8.cell 0; have d1 := hY8.cell 1; have d2 := hY8.cell 2; have d3 := hY8.cell 3; have d4 := hY8.cell 4; have d5 := hY8.cell 5; have d6 := hY8.cell 6; have d7 := hY8.cell 7; have d8 := hY8.cell 8; have d9 := hY8.cell 9; have d10 := hY8.cell 10; have d11 := hY8.cell 11; simp [HB.cells] at d0 d1 d2 d3 d4 d5 d6 d7 d8 d9 d10 d11); (have e0 := hZ8.cell 0; have e1 := hZ8.cell 1; have e2 := hZ8.cell 2; have e3 := hZ8.cell 3; have e4 := hZ8.cell 4; have e5 := hZ8.cell 5; have e6 := hZ8.cell 6; have e7 := hZ8.cell 7; have e8 := hZ8.cell 8; have e9 := hZ8.cell 9; have e10 := hZ8.cell 10; have e11 := hZ8.cell 11; simp [HB.cells] at e0 e1 e2 e3 e4 e5 e6 e7 e8 e9 e10 e11)))
  go_wp2_with fail
  go_ret
  exact ⟨rfl, hF8⟩

theorem walk_codes (w : World) (hT : Tabs w) (x : HB) (hx : x.Ok) (a : Option Addr) (c : Nat) (l : List Nat) (hb : BytA w a c l) :
    Calls Tryd.prog 3 #[x.val, .slice a l.length c] w fun e w' => e = .returned (.bool true) ∧ Fr [] w w' := by
  by_cases h : 600 < l.length
  · exact codes_long w hT x a c l.length hb.len h
  · exact codes_in w hT x hx a c l.length l (hb.byt (by omega)) rfl (by omega)
end Go.Proofs.YtagnelfnjlfhnaaDoor
