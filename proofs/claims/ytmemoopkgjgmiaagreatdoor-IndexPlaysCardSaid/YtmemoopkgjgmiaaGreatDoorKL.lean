/- Several texts in one. -/
import Derived.Test.YtmemoopkgjgmiaaGreatDoorKC
import Derived.Test.YtmemoopkgjgmiaaGreatDoorGQ
import Derived.Test.YtmemoopkgjgmiaaGreatDoorKG
import Derived.Test.YtmemoopkgjgmiaaGreatDoorKT
import Derived.Test.YtmemoopkgjgmiaaGreatDoorKI
import Derived.Test.YtmemoopkgjgmiaaGreatDoorKJ
import Derived.Test.YtmemoopkgjgmiaaGreatDoorGA
import Derived.BigQuiet
import Derived.Lib.MinMax
import Derived.Test.YtmemoopkgjgmiaaGreatDoorGJ
/- A place where no block lies: head.Get, and what the index answers; no touch is counted. -/
namespace Go.Proofs.YtmemoopkgjgmiaaGreatDoor
set_option linter.unusedVariables false
set_option linter.unusedSimpArgs false
open Go.RowKit

section
variable {w0 W W' w : World} {q : MH} {S : SS} {t u : TM} {L : Nat → Prop} {E : Nat → HB} {B : Nat → List Nat}
theorem lying_non (h : IsH w q t) (x : Int) (hk : kindL t.kinds x 4 ≠ 5) : Calls Tryz.prog 284 #[.pointer (some ⟨q.m, 0, none⟩), .int .i64 x] w fun e w' => e = .returned (.tuple #[.int .i64 0, .int .i64 (kindL t.kinds x 4)]) ∧ w' = w := by
  have hkd : Calls Tryz.prog 26 #[.pointer (some ⟨q.m, 0, none⟩), .int .i64 x, .int .i64 4] w fun e w' => e = .returned (.int .i64 (kindL t.kinds x 4)) ∧ w' = w := mkind w q t.ms h.m.m x 4
  generalize kindL t.kinds x 4 = K at *
  clear h
  have hb : ((K : Int) != 5) = true := by simp; omega
  go_enter Tryz.func284, Tryz.ntmps284
  go_wp2_with fail
  with_reducible refine hkd.mono ?_
  rintro e w' ⟨rfl, rfl⟩
  go_wp2_with fail
  go_ret2
  exact ⟨rfl, rfl⟩
set_option maxRecDepth 100000 in
set_option maxHeartbeats 8000000 in
/-- Nothing lies there. -/
theorem hget_non (h : IsH w q t) (x : Int) (hk5 : kindL t.kinds x 4 ≠ 5) (hk6 : kindL t.kinds x 4 ≠ 6) : Calls Tryz.prog 188 #[.pointer (some ⟨q.m, 0, none⟩), .int .i64 x] w fun e w' => e = .returned (.tuple #[zHB.val, .int .i64 30]) ∧ IsH w' q t ∧ Fr q.blocks w w' := by
  have HLY := Lib.hid (fun W (hW : IsH W q t) => lying_non hW x hk5)
  have HI := Lib.hid h
  have hlt := h.m.lt
  have HBQ := Lib.hid (show ∀ k, w.heap.size ≤ k → k ∉ q.blocks from fun k hk hm => by have := hlt _ hm; omega)
  have HS0 := Lib.hid h.m.tab.size
  have HS1 := Lib.hid h.tabs.size
  have hzz : zeroC = #[.int .i64 0, .int .i64 0, .bool false, .int .i64 0, .int .u32 0, .int .u32 0, .int .u32 0, .int .u32 0, .int .u64 0, .int .u16 0, .int .i64 0, .int .u32 0] := rfl
  have HZZ := Lib.hid hzz
  have hP := Lib.hid (show ∀ w', IsH w' q t → Fr q.blocks w w' → (Ending.returned (.tuple #[.agg zHB.cells, .int .i64 30]) = .returned (.tuple #[zHB.val, .int .i64 30]) ∧ IsH w' q t ∧ Fr q.blocks w w') from fun w' a b => ⟨rfl, a, b⟩)
  have HFR := Lib.hid (show ∀ W W' (hW : IsH W q t) (hf : Fr [w.heap.size] W W'), IsH W' q t from fun W W' h1 hf => ⟨h1.m.fr hf (fun k hk hm => by simp at hm; subst hm; exact HBQ.out _ (Nat.le_refl _) hk) (fun k hk hm => by simp at hm; subst hm; have := HS0.out; omega), h1.tabs.fr hf (by have := HS1.out; simpa using this), h1.hi⟩)
  generalize kindL t.kinds x 4 = K at *
  have k5 : ((K : Int) != 5) = true := by simp; omega
  have k6 : ((K : Int) != 6) = true := by simp; omega
  clear hlt hzz h
  go_enter Tryz.func188, Tryz.ntmps188
  go_wp2_with fail
  with_reducible refine (HLY.out _ (HI.out.alloc _)).mono ?_
  rintro e w1 ⟨rfl, rfl⟩
  have hI1 := Lib.hid (HI.out.alloc (.cells zeroC 168))
  have hF1 := Lib.hid (((Fr.refl q.blocks w).alloc (.cells zeroC 168)))
  have hB1 := (Blk.new w 168 zeroC)
  rw [HZZ.out] at hB1 hF1 hI1
  have hB2 := Lib.hid hB1
  (have d0 := hB1.cell 0; have z0 := hB1.frozen 0; have d1 := hB1.cell 1; have z1 := hB1.frozen 1; have d2 := hB1.cell 2; have z2 := hB1.frozen 2; have d3 := hB1.cell 3; have z3 := hB1.frozen 3; have d4 := hB1.cell 4; have z4 := hB1.frozen 4; have d5 := hB1.cell 5; have z5 := hB1.frozen 5; have d6 := hB1.cell 6; have z6 := hB1.frozen 6; have d7 := hB1.cell 7; have z7 := hB1.frozen 7; have d8 := hB1.cell 8; have z8 := hB1.frozen 8; have d9 := hB1.cell 9; have z9 := hB1.frozen 9; have d10 := hB1.cell 10; have z10 := hB1.frozen 10; have d11 := hB1.cell 11; have z11 := hB1.frozen 11; simp [HB.cells] at d0 d1 d2 d3 d4 d5 d6 d7 d8 d9 d10 d11)
  clear hB1
  go_wp2_with fail
  have hB3 := hB2.out
  clear d0 z0 d1 z1 d2 z2 d3 z3 d4 z4 d5 z5 d6 z6 d7 z7 d8 z8 d9 z9 d10 z10 d11 z11
  generalize w.alloc (.cells #[.int .i64 0, .int .i64 0, .bool false, .int .i64 0, .int .u32 0, .int .u32 0, .int .u32 0, .int .u32 0, .int .u64 0, .int .u16 0, .int .i64 0, .int .u32 0] 168) = w9 at *
  (have q0 := hB3.cell 0; have q1 := hB3.cell 1; have q2 := hB3.cell 2; have q3 := hB3.cell 3; have q4 := hB3.cell 4; have q5 := hB3.cell 5; have q6 := hB3.cell 6; have q7 := hB3.cell 7; have q8 := hB3.cell 8; have q9 := hB3.cell 9; have q10 := hB3.cell 10; have q11 := hB3.cell 11; simp at q0 q1 q2 q3 q4 q5 q6 q7 q8 q9 q10 q11)
  refine bodyPost_ret (by simp [results, Tryz.results188, go_sem, q0, q1, q2, q3, q4, q5, q6, q7, q8, q9, q10, q11]; try rfl) rfl (hP.out _ hI1.out hF1.out)
/-- Part of a free block reads as a free block's head. -/
theorem free_part (hok : u.Ok) (hs : SlI u S) {x : Nat} (h16 : x % 16 = 0) (hl : x < lsize u.a u.s) (hk : kindAt u (x / 4) = 6) : ∃ n, n < 4294967296 ∧ HeadTo u x 0 6 (lkN n) 12 := by
  obtain ⟨i, y, hi, hy, l1, l2⟩ := free_at hok hs hl hk
  have h1 := hs.each i hi
  have h0 := h1.none (.inl hy)
  obtain ⟨c1, c2, c3, c4, c5, c6, c7⟩ := csz_tab (S.cls i) (by omega) h1.c9
  obtain ⟨a1, a2, a3, a4, a5, a6, a7⟩ := h1.at_ hok hi (.inl hy)
  obtain ⟨n, n1, n2⟩ := lnk_lt hok hs hi hy
  have hkd := h1.free.kd y hy
  by_cases e : x = y
  · subst e
    exact ⟨n, by omega, free_head hkd n2 (by omega) (by omega) a4 a6 (by omega : n < 4294967296)⟩
  · have hb : ByOn u x (y + csz (S.cls i) - x) (lnkB 0) := fun j hj => by
      have := n2 (x - y + j) (by omega)
      rw [show y + (x - y + j) = x + j by omega] at this
      rw [this]
      unfold lnkB
      rw [if_neg (by omega)]
      split
      · unfold nb; simp
      · rfl
    exact ⟨0, by omega, free_head (s := y + csz (S.cls i) - x) (fun g g1 g2 => hkd g (by omega) (by omega)) hb (by omega) (by omega) (by omega) (by omega) (by omega)⟩
theorem kind4 {ks : List Nat} {x : Int} (h0 : kindL ks x 4 ≠ 0) (h4 : x % 4 = 0) : ∃ n : Nat, x = n ∧ n + 4 ≤ 4 * ks.length ∧ kindL ks x 4 = ks[n / 4]?.getD 0 := by
  obtain ⟨k1, k2⟩ := kindL_some h0
  obtain ⟨n, rfl⟩ : ∃ n : Nat, x = n := ⟨x.toNat, by omega⟩
  refine ⟨n, rfl, by omega, ?_⟩
  unfold kindL
  rw [if_neg (by
    rintro (h | h)
    · omega
    · simp [fitsB] at h; omega)]
  unfold kindY
  have e1 : ((n : Int) / 4).toNat = n / 4 := by omega
  have e2 : (((n : Int) + 4 + 3) / 4).toNat = n / 4 + 1 := by omega
  rw [e1, e2, oneK_yes _ _ _ (fun y hy => by have : y = 0 := by omega
                                             rw [this, Nat.add_zero]), if_pos rfl]
/-- Where no block lies: nowhere a live one, and no free one but at 16 bytes' steps. -/
def NoB (u : TM) (x : Int) : Prop := kindL u.kinds x 4 ≠ 5 ∧ (kindL u.kinds x 4 ≠ 6 ∨ x % 16 = 0)
theorem get_no (hok : u.Ok) (hs : SlI u S) (x : Int) (hn : NoB u x) : ∃ (X : HB) (c : Nat), (c ≠ 0 ∨ X.tag = 0) ∧ ∀ W, IsH W q u → Calls Tryz.prog 188 #[.pointer (some ⟨q.m, 0, none⟩), .int .i64 x] W fun e w' => e = .returned (.tuple #[.agg #[.int .i64 X.tag, .int .i64 X.cls, .bool X.used, .int .i64 X.label, .int .u32 X.name, .int .u32 X.next, .int .u32 X.prev, .int .u32 X.refs, .int .u64 X.expiry, .int .u16 X.typ, .int .i64 X.size, .int .u32 X.hash], .int .i64 c]) ∧ IsH w' q u ∧ Fr q.blocks W w' := by
  by_cases h6 : kindL u.kinds x 4 = 6
  · have h16 : x % 16 = 0 := hn.2.resolve_left (fun h => h h6)
    obtain ⟨n, rfl, hl, e⟩ := kind4 (by rw [h6]; decide) (by omega : x % 4 = 0)
    rw [u.kinds_len] at hl
    have l1 := (lsize_4 u.a u.s).1
    have hk : kindAt u (n / 4) = 6 := by
      rw [h6, u.kinds_get (n / 4) (by omega)] at e
      exact e.symm
    obtain ⟨m, hm, hh⟩ := free_part hok hs (by omega : n % 16 = 0) (by omega) hk
    refine ⟨HB.lnk m, 0, .inr rfl, fun W hW => hget W q u hW n 0 6 (HB.lnk m) ⟨hh.tg, hh.base, hh.al, hh.fit, hh.k0, hh.kinds, fun f hf h2 j hj => by rw [lnk_num m f hf]; exact hh.byte f hf h2 j hj, fun f hf h2 => by rw [lnk_num m f hf]; exact hh.lt f hf h2⟩ (lnk_ok m (by omega)) (lnk_right m) rfl (.inr ⟨by decide, rfl⟩) (.inr rfl)⟩
  · exact ⟨zHB, 30, .inl (by decide), fun W hW => hget_non hW x hn.1 h6⟩
theorem iblock_no (h : IsH w q u) (hs : SlI u S) (n : Nat) (hn : 0 < n) (x : Int) (hx : NoB u x) : Calls Tryz.prog 97 #[.agg #[.pointer (some ⟨q.m, 0, none⟩), .int .i64 n], .int .i64 x] w fun e w' => e = .returned (.int .i64 30) ∧ IsH w' q u ∧ Fr q.blocks w w' := by
  obtain ⟨X, c, hc, hG⟩ := get_no (q := q) h.ok hs x hx
  have HG := Lib.hid hG
  have b0 : ((n : Int) == 0) = false := by rw [beq_eq_false_iff_ne]; omega
  have b0' : (n == 0) = false := by rw [beq_eq_false_iff_ne]; omega
  have H0 := Lib.hid (h.alloc (.cells #[.pointer (some ⟨q.m, 0, none⟩), .int .i64 n] 146))
  have F0 := Lib.hid (((Fr.refl [] w).alloc (.cells #[.pointer (some ⟨q.m, 0, none⟩), .int .i64 n] 146)).nil (S := q.blocks))
  clear h hx hG
  by_cases hc0 : c = 0
  · have htg : (X.tag == 0) = true := by rw [beq_iff_eq]; exact hc.resolve_left (fun h => h hc0)
    subst hc0
    clear hc
    go_enter Tryz.func97, Tryz.ntmps97
    go_wp2_with fail
    with_reducible refine (HG.out _ H0.out).mono ?_
    rintro e w1 ⟨rfl, h1, f1⟩
    have H1 := Lib.hid h1
    have F1 := Lib.hid (F0.out.trans f1)
    clear h1 f1 HG
    go_wp2_with fail
    go_ret
    exact ⟨rfl, H1.out.alloc _, F1.out.alloc _⟩
  · have b1 : ((c : Int) != 0) = true := by simp; omega
    have b1' : (c != 0) = true := by simp; omega
    clear hc hc0
    go_enter Tryz.func97, Tryz.ntmps97
    go_wp2_with fail
    with_reducible refine (HG.out _ H0.out).mono ?_
    rintro e w1 ⟨rfl, h1, f1⟩
    have H1 := Lib.hid h1
    have F1 := Lib.hid (F0.out.trans f1)
    clear h1 f1 HG
    go_wp2_with fail
    go_ret
    exact ⟨rfl, H1.out.alloc _, F1.out.alloc _⟩
end
end Go.Proofs.YtmemoopkgjgmiaaGreatDoor

/- The index where no block lies: Insert, Delete, Place and Move refuse; Move. -/
namespace Go.Proofs.YtmemoopkgjgmiaaGreatDoor
set_option linter.unusedVariables false
set_option linter.unusedSimpArgs false
open Go.RowKit

section
variable {w0 W W' w : World} {q : MH} {S : SS} {t u : TM} {L : Nat → Prop} {E : Nat → HB} {B : Nat → List Nat}
theorem ins_bad (h : IsH w q u) (hs : SlI u S) (h0 : 0 < u.s) (x : Int) (hx : NoB u x) : Calls Tryz.prog 22 #[.pointer (some ⟨q.m, 0, none⟩), .int .i64 x] w fun e w' => e = .returned (.int .i64 30) ∧ IsH w' q u ∧ Fr q.blocks w w' := by
  have HOF := Lib.hid (show Calls Tryz.prog 96 #[.pointer (some ⟨q.m, 0, none⟩)] w fun e w' => e = .returned (.agg #[.pointer (some ⟨q.m, 0, none⟩), .int .i64 u.s]) ∧ Fr [] w w' from iof h.m)
  have HBL := Lib.hid (fun W (hW : IsH W q u) => iblock_no hW hs u.s h0 x hx)
  have H00 := Lib.hid h
  generalize u.s = s at *
  clear h hs hx
  go_enter Tryz.func22, Tryz.ntmps22
  go_wp2_with fail
  with_reducible refine HOF.out.mono ?_
  rintro e w1 ⟨rfl, f1⟩
  have K0 := Lib.hid ((H00.out.fr0 f1).alloc (.cells #[.pointer (some ⟨q.m, 0, none⟩), .int .i64 s] 146))
  have F0 := Lib.hid ((f1.nil (S := q.blocks)).alloc (.cells #[.pointer (some ⟨q.m, 0, none⟩), .int .i64 s] 146))
  clear f1
  go_wp2_with fail
  with_reducible refine (HBL.out _ K0.out).mono ?_
  rintro e w2 ⟨rfl, h2, f2⟩
  have K2 := Lib.hid h2
  have F2 := Lib.hid (F0.out.trans f2)
  clear h2 f2
  go_wp2_with fail
  go_ret
  exact ⟨rfl, K2.out, F2.out⟩
theorem del_bad (h : IsH w q u) (hs : SlI u S) (h0 : 0 < u.s) (x : Int) (hx : NoB u x) : Calls Tryz.prog 20 #[.pointer (some ⟨q.m, 0, none⟩), .int .i64 x] w fun e w' => e = .returned (.int .i64 30) ∧ IsH w' q u ∧ Fr q.blocks w w' := by
  have HOF := Lib.hid (show Calls Tryz.prog 96 #[.pointer (some ⟨q.m, 0, none⟩)] w fun e w' => e = .returned (.agg #[.pointer (some ⟨q.m, 0, none⟩), .int .i64 u.s]) ∧ Fr [] w w' from iof h.m)
  have HBL := Lib.hid (fun W (hW : IsH W q u) => iblock_no hW hs u.s h0 x hx)
  have H00 := Lib.hid h
  generalize u.s = s at *
  clear h hs hx
  go_enter Tryz.func20, Tryz.ntmps20
  go_wp2_with fail
  with_reducible refine HOF.out.mono ?_
  rintro e w1 ⟨rfl, f1⟩
  have K0 := Lib.hid ((H00.out.fr0 f1).alloc (.cells #[.pointer (some ⟨q.m, 0, none⟩), .int .i64 s] 146))
  have F0 := Lib.hid ((f1.nil (S := q.blocks)).alloc (.cells #[.pointer (some ⟨q.m, 0, none⟩), .int .i64 s] 146))
  clear f1
  go_wp2_with fail
  with_reducible refine (HBL.out _ K0.out).mono ?_
  rintro e w2 ⟨rfl, h2, f2⟩
  have K2 := Lib.hid h2
  have F2 := Lib.hid (F0.out.trans f2)
  clear h2 f2
  go_wp2_with fail
  go_ret
  exact ⟨rfl, K2.out, F2.out⟩
theorem plc_bad (h : IsH w q u) (hs : SlI u S) (h0 : 0 < u.s) (x : Int) (hx : NoB u x) : Calls Tryz.prog 27 #[.pointer (some ⟨q.m, 0, none⟩), .int .i64 x] w fun e w' => e = .returned (.tuple #[.int .i64 0, .bool false]) ∧ IsH w' q u ∧ Fr q.blocks w w' := by
  have HOF := Lib.hid (show Calls Tryz.prog 96 #[.pointer (some ⟨q.m, 0, none⟩)] w fun e w' => e = .returned (.agg #[.pointer (some ⟨q.m, 0, none⟩), .int .i64 u.s]) ∧ Fr [] w w' from iof h.m)
  have HBL := Lib.hid (fun W (hW : IsH W q u) => iblock_no hW hs u.s h0 x hx)
  have H00 := Lib.hid h
  generalize u.s = s at *
  clear h hs hx
  go_enter Tryz.func27, Tryz.ntmps27
  go_wp2_with fail
  with_reducible refine HOF.out.mono ?_
  rintro e w1 ⟨rfl, f1⟩
  have K0 := Lib.hid ((H00.out.fr0 f1).alloc (.cells #[.pointer (some ⟨q.m, 0, none⟩), .int .i64 s] 146))
  have F0 := Lib.hid ((f1.nil (S := q.blocks)).alloc (.cells #[.pointer (some ⟨q.m, 0, none⟩), .int .i64 s] 146))
  clear f1
  go_wp2_with fail
  with_reducible refine (HBL.out _ K0.out).mono ?_
  rintro e w2 ⟨rfl, h2, f2⟩
  have K2 := Lib.hid h2
  have F2 := Lib.hid (F0.out.trans f2)
  clear h2 f2
  go_wp2_with fail
  go_ret2
  exact ⟨rfl, K2.out, F2.out⟩
set_option maxRecDepth 100000 in
theorem mov_bad (h : IsH w q u) (hs : SlI u S) (h0 : 0 < u.s) (x : Int) (hx : NoB u x) : Calls Tryz.prog 28 #[.pointer (some ⟨q.m, 0, none⟩), .int .i64 x, .int .i64 x] w fun e w' => e = .returned (.int .i64 30) ∧ IsH w' q u ∧ Fr q.blocks w w' := by
  have HOF := Lib.hid (show Calls Tryz.prog 96 #[.pointer (some ⟨q.m, 0, none⟩)] w fun e w' => e = .returned (.agg #[.pointer (some ⟨q.m, 0, none⟩), .int .i64 u.s]) ∧ Fr [] w w' from iof h.m)
  have HBL := Lib.hid (fun W (hW : IsH W q u) => iblock_no hW hs u.s h0 x hx)
  have H00 := Lib.hid h
  generalize u.s = s at *
  clear h hs hx
  go_enter Tryz.func28, Tryz.ntmps28
  go_wp2_with fail
  with_reducible refine HOF.out.mono ?_
  rintro e w1 ⟨rfl, f1⟩
  have hb1 := (Blk.new w1 146 #[.pointer (some ⟨q.m, 0, none⟩), .int .i64 s]).alloc (.cells #[.int .i64 x, .int .i64 x] 3)
  have hb2 := Blk.new (w1.alloc (.cells #[.pointer (some ⟨q.m, 0, none⟩), .int .i64 s] 146)) 3 #[.int .i64 x, .int .i64 x]
  rw [World.size_alloc] at hb2
  have K0 := Lib.hid (((H00.out.fr0 f1).alloc (.cells #[.pointer (some ⟨q.m, 0, none⟩), .int .i64 s] 146)).alloc (.cells #[.int .i64 x, .int .i64 x] 3))
  have F0 := Lib.hid (((f1.nil (S := q.blocks)).alloc (.cells #[.pointer (some ⟨q.m, 0, none⟩), .int .i64 s] 146)).alloc (.cells #[.int .i64 x, .int .i64 x] 3))
  have d0 := hb1.cell 0
  have d1 := hb1.cell 1
  have d2 := hb2.cell 0
  simp only [List.getElem?_toArray, List.getElem?_cons_zero, List.getElem?_cons_succ] at d0 d1 d2
  clear f1 hb1 hb2
  go_wp2_with fail
  generalize w1.heap.size = gt at *
  generalize (w1.alloc (.cells #[.pointer (some ⟨q.m, 0, none⟩), .int .i64 s] 146)).alloc (.cells #[.int .i64 x, .int .i64 x] 3) = w2 at *
  go_loopw [18] (fun v W => v = .int .i64 0 ∧ W = w2) (fun v _ => 0)
  case atStart => exact ⟨rfl, rfl⟩
  case round =>
    obtain ⟨rfl, rfl⟩ := hrel
    go_wp2_with fail
    with_reducible refine (HBL.out _ K0.out).mono ?_
    rintro e w3 ⟨rfl, h2, f2⟩
    have K2 := Lib.hid h2
    have F2 := Lib.hid (F0.out.trans f2)
    clear h2 f2
    go_wp2_with fail
    go_ret
    exact ⟨rfl, K2.out, F2.out⟩
/-- What Move answers, and what it leaves. -/
def MvM (w' : World) (q : MH) (t : TM) (y : Nat) (e : Ending) : Option Nat → Prop
  | none => e = .returned (.int .i64 7) ∧ IsH w' q t
  | some i => e = .returned (.int .i64 0) ∧ IsH w' q (t.wsl (up t.sl i y))
set_option maxRecDepth 100000 in
set_option maxHeartbeats 1000000 in
theorem imove (h : IsH w q t) (g : IxI t L E) {x y : Nat} (hx : L x) (hy : L y) (hh : (E x).hash = (E y).hash) (hy2 : y < 4294967296) (R : Option Nat) (hR : fndT t.sl (hmE t E) t.s ((E x).hash % t.s) (fun z => z == x) = R) (hRi : ∀ i, R = some i → i < t.s) :
    Calls Tryz.prog 28 #[.pointer (some ⟨q.m, 0, none⟩), .int .i64 x, .int .i64 y] w fun e w' => MvM w' q t y e R ∧ Fr q.blocks w w' := by
  have hs := g.s0
  have hs1 := g.s1
  have HOF := Lib.hid (show Calls Tryz.prog 96 #[.pointer (some ⟨q.m, 0, none⟩)] w fun e w' => e = .returned (.agg #[.pointer (some ⟨q.m, 0, none⟩), .int .i64 t.s]) ∧ Fr [] w w' from iof h.m)
  have HBX := Lib.hid (fun W (hW : IsH W q t) => (show Calls Tryz.prog 97 #[.agg #[.pointer (some ⟨q.m, 0, none⟩), .int .i64 t.s], .int .i64 x] W fun e w' => e = .returned (.int .i64 0) ∧ IsH w' q t ∧ Fr q.blocks W w' from iblock hW t.s hs (g.e x hx)))
  have HBY := Lib.hid (fun W (hW : IsH W q t) => (show Calls Tryz.prog 97 #[.agg #[.pointer (some ⟨q.m, 0, none⟩), .int .i64 t.s], .int .i64 y] W fun e w' => e = .returned (.int .i64 0) ∧ IsH w' q t ∧ Fr q.blocks W w' from iblock hW t.s hs (g.e y hy)))
  have HHX := Lib.hid (fun W (hW : IsH W q t) => (show Calls Tryz.prog 115 #[.agg #[.pointer (some ⟨q.m, 0, none⟩), .int .i64 t.s], .int .i64 x] W fun e w' => e = .returned (.int .u32 (E y).hash) ∧ IsH w' q t ∧ Fr q.blocks W w' from by
    have := ihash hW t.s (g.e x hx)
    rwa [hh] at this))
  have HHY := Lib.hid (fun W (hW : IsH W q t) => (show Calls Tryz.prog 115 #[.agg #[.pointer (some ⟨q.m, 0, none⟩), .int .i64 t.s], .int .i64 y] W fun e w' => e = .returned (.int .u32 (E y).hash) ∧ IsH w' q t ∧ Fr q.blocks W w' from ihash hW t.s (g.e y hy)))
  have HPL := Lib.hid (fun W (hW : IsH W q t) => (show Calls Tryz.prog 98 #[.agg #[.pointer (some ⟨q.m, 0, none⟩), .int .i64 t.s], .int .i64 x] W fun e w' => e = .returned (.int .i64 (optZ R)) ∧ IsH w' q t ∧ Fr q.blocks W w' from by
    have := iplace hW g (g.e x hx)
    rwa [hR] at this))
  have HPU := Lib.hid (fun W (hW : IsH W q t) i (hi : i < t.s) => (show Calls Tryz.prog 101 #[.agg #[.pointer (some ⟨q.m, 0, none⟩), .int .i64 t.s], .int .i64 i, .int .i64 y] W fun e w' => e = .returned (.tuple #[]) ∧ IsH w' q (t.wsl (up t.sl i y)) ∧ Fr q.blocks W w' from by
    have := iput hW.m i y (by omega) hs hy2
    rw [Nat.mod_eq_of_lt hi] at this
    exact this.mono fun e w' ⟨he, k1, k2⟩ => ⟨he, hW.step k1 k2, k2⟩))
  have HMV := Lib.hid (show ∀ w' e, (e = .returned (.int .i64 7) ∧ IsH w' q t → MvM w' q t y e none) ∧ (∀ i, e = .returned (.int .i64 0) ∧ IsH w' q (t.wsl (up t.sl i y)) → MvM w' q t y e (some i)) from fun w' e => ⟨fun h => h, fun i h => h⟩)
  have H00 := Lib.hid h
  have hlt := h.m.lt
  have HNB := Lib.hid (show ∀ k, w.heap.size ≤ k → k ∉ q.blocks from fun k hk hm => by have := hlt _ hm; omega)
  have HRI := Lib.hid hRi
  generalize (E y).hash = hs2 at *
  generalize hM : (fun w' e R => MvM w' q t y e R) = MV at *
  generalize t.s = s at *
  have b9 : ((hs2 : Int) != hs2) = false := by simp
  clear h hR hRi hlt g hM
  go_enter Tryz.func28, Tryz.ntmps28
  go_wp2_with fail
  with_reducible refine HOF.out.mono ?_
  rintro e w1 ⟨rfl, f1⟩
  have hb1 := (Blk.new w1 146 #[.pointer (some ⟨q.m, 0, none⟩), .int .i64 s]).alloc (.cells #[.int .i64 x, .int .i64 y] 3)
  have hb2 := Blk.new (w1.alloc (.cells #[.pointer (some ⟨q.m, 0, none⟩), .int .i64 s] 146)) 3 #[.int .i64 x, .int .i64 y]
  rw [World.size_alloc] at hb2
  have K0 := Lib.hid (((H00.out.fr0 f1).alloc (.cells #[.pointer (some ⟨q.m, 0, none⟩), .int .i64 s] 146)).alloc (.cells #[.int .i64 x, .int .i64 y] 3))
  have F0 := Lib.hid (((f1.nil (S := q.blocks)).alloc (.cells #[.pointer (some ⟨q.m, 0, none⟩), .int .i64 s] 146)).alloc (.cells #[.int .i64 x, .int .i64 y] 3))
  have nb1 := HNB.out w1.heap.size f1.size
  have nb2 := HNB.out (w1.heap.size + 1) (Nat.le_succ_of_le f1.size)
  have DC := Lib.hid (fun V (hV : Fr q.blocks ((w1.alloc (.cells #[.pointer (some ⟨q.m, 0, none⟩), .int .i64 s] 146)).alloc (.cells #[.int .i64 x, .int .i64 y] 3)) V) => (show V.cell? ⟨w1.heap.size, 0, none⟩ = some (.pointer (some ⟨q.m, 0, none⟩)) ∧ V.cell? ⟨w1.heap.size, 1, none⟩ = some (.int .i64 s) ∧ V.cell? ⟨w1.heap.size + 1, 0, none⟩ = some (.int .i64 x) ∧ V.cell? ⟨w1.heap.size + 1, 1, none⟩ = some (.int .i64 y) from
    ⟨(hb1.fr hV nb1).cell 0, (hb1.fr hV nb1).cell 1, (hb2.fr hV nb2).cell 0, (hb2.fr hV nb2).cell 1⟩))
  clear f1 hb1 hb2
  go_wp2_with fail
  generalize w1.heap.size = gt at *
  generalize (w1.alloc (.cells #[.pointer (some ⟨q.m, 0, none⟩), .int .i64 s] 146)).alloc (.cells #[.int .i64 x, .int .i64 y] 3) = w2 at *
  go_loopw [18] (fun v W => ∃ k : Nat, k ≤ 2 ∧ v = .int .i64 k ∧ IsH W q t ∧ Fr q.blocks w2 W) (fun v _ => 2 - (intOf v).toNat)
  case atStart => exact ⟨0, by omega, rfl, K0.out, Fr.refl _ _⟩
  case round =>
    obtain ⟨k, hk, rfl, hI, hF⟩ := hrel
    have K1 := Lib.hid hI
    have F1 := Lib.hid hF
    obtain ⟨d0, d1, d2, d3⟩ := DC.out _ hF
    clear hI hF
    rcases (by omega : k = 0 ∨ k = 1 ∨ k = 2) with rfl | rfl | rfl
    · go_wp2_with fail
      with_reducible refine (HBX.out _ K1.out).mono ?_
      rintro e w3 ⟨rfl, h3, f3⟩
      have K3 := Lib.hid h3
      have F3 := Lib.hid (F1.out.trans f3)
      clear h3 f3 d0 d1 d2 d3
      go_wp2_with fail
      go_roundw
      case rel => exact ⟨1, by omega, rfl, K3.out, F3.out⟩
      case measure => simp [intOf]
    · go_wp2_with fail
      with_reducible refine (HBY.out _ K1.out).mono ?_
      rintro e w3 ⟨rfl, h3, f3⟩
      have K3 := Lib.hid h3
      have F3 := Lib.hid (F1.out.trans f3)
      clear h3 f3 d0 d1 d2 d3
      go_wp2_with fail
      go_roundw
      case rel => exact ⟨2, by omega, rfl, K3.out, F3.out⟩
      case measure => simp [intOf]
    · go_wp2_with fail
      have hY := And.intro d0 d1
      clear d0 d1 d2 d3
      have K1d := Lib.hid K1.out.drew
      refine wp_region_held_drew (S := fun W => W.cell? ⟨gt, 0, none⟩ = some (.pointer (some ⟨q.m, 0, none⟩)) ∧ W.cell? ⟨gt, 1, none⟩ = some (.int .i64 s)) (by kernel_rfl) (hY) (fun yH => ?_)
      refine tkY 0 yH (h := ?_)
      refine tkY 1 yH (h := ?_)
      refine tkY 3 yH (h := ?_)
      refine tkY 4 yH (h := ?_)
      refine wpAnyH_ready (rs := [2]) (by kernel_rfl) (by simp) ?_
      refine AllReadyH.cons (o := ?ooa4) ?hia4 (fun K hK => ?hca4) AllReadyH.nil
      case hia4 => (simp only [List.getElem?_toArray, List.getElem?_cons_zero, List.getElem?_cons_succ]; rfl)
      go_simp
      with_reducible refine (HHX.out _ K1d.out).mono ?_
      rintro e w3 ⟨rfl, h3, f3⟩
      have K3 := Lib.hid h3
      have F3 := Lib.hid (F1.out.drew.trans f3)
      have hY := And.intro (DC.out _ F3.out).1 (DC.out _ F3.out).2.1
      clear h3 f3
      go_wp2_with fail
      refine hK.out _ _ (hY) (fun yH => ?_)
      clear hK K
      try simp only [Act.put, List.setIfInBounds_toArray, List.set_cons_zero, List.set_cons_succ]
      refine wpAnyH_ready (rs := [5]) (by kernel_rfl) (by simp) ?_
      refine AllReadyH.cons (o := ?ooa5) ?hia5 (fun K hK => ?hca5) AllReadyH.nil
      case hia5 => (simp only [List.getElem?_toArray, List.getElem?_cons_zero, List.getElem?_cons_succ]; rfl)
      go_simp
      with_reducible refine (HHY.out _ K3.out).mono ?_
      rintro e w4 ⟨rfl, h4, f4⟩
      have K4 := Lib.hid h4
      have F4 := Lib.hid (F3.out.trans f4)
      have hY := And.intro (DC.out _ F4.out).1 (DC.out _ F4.out).2.1
      clear h4 f4
      go_wp2_with fail
      refine hK.out _ _ (hY) (fun yH => ?_)
      clear hK K
      try simp only [Act.put, List.setIfInBounds_toArray, List.set_cons_zero, List.set_cons_succ]
      refine tkY 6 yH (h := ?_)
      refine wpAnyH_done (by kernel_rfl) ?_ _
      try simp only [Act.put, List.getElem_toArray, List.getElem_cons_zero, List.getElem_cons_succ, List.setIfInBounds_toArray, List.set_cons_zero, List.set_cons_succ]
      have d0 := hY.1
      have d1 := hY.2
      clear hY
      go_wp2_with fail
      with_reducible refine (HPL.out _ K4.out).mono ?_
      rintro e w5 ⟨rfl, h5, f5⟩
      have K5 := Lib.hid h5
      have F5 := Lib.hid (F4.out.trans f5)
      have d0 := (DC.out _ F5.out).1
      have d1 := (DC.out _ F5.out).2.1
      clear h5 f5
      cases R with
      | none =>
        rw [show optZ none = -1 from rfl]
        go_wp2_with fail
        go_ret
        exact ⟨(HMV.out _ _).1 ⟨rfl, K5.out⟩, F0.out.trans F5.out⟩
      | some i =>
        have hi := HRI.out i rfl
        rw [show optZ (some i) = (i : Int) from rfl]
        have b7 : ((i : Int) == -1) = false := by rw [beq_eq_false_iff_ne]; omega
        go_wp2_with fail
        with_reducible refine (HPU.out _ K5.out i hi).mono ?_
        rintro e w6 ⟨rfl, h6, f6⟩
        have K6 := Lib.hid h6
        have F6 := Lib.hid (F5.out.trans f6)
        clear h6 f6
        go_wp2_with fail
        go_ret
        exact ⟨(HMV.out _ _).2 i ⟨rfl, K6.out⟩, F0.out.trans F6.out⟩
end
end Go.Proofs.YtmemoopkgjgmiaaGreatDoor

/- IndexPlays: a block is given back, is moved; what is no block; all slots. -/
namespace Go.Proofs.YtmemoopkgjgmiaaGreatDoor
set_option linter.unusedVariables false
set_option linter.unusedSimpArgs false
open Go.RowKit

theorem RZ.ren {n : Nat} {T H : Nat → Nat} (R : RZ n T H) {i y : Nat} (h0 : T i ≠ 0) (hy : y ≠ 0) (hn : ∀ s, s < n → T s ≠ y) (hh : H y = H (T i)) : RZ n (up T i y) H := by
  have hz : ∀ s, up T i y s = 0 ↔ T s = 0 := fun s => by
    by_cases e : s = i
    · subst e
      rw [up_same]
      exact ⟨fun h => absurd h hy, fun h => absurd h h0⟩
    · rw [up_ne _ _ e]
  have hH : ∀ s, H (up T i y s) = H (T s) := fun s => by
    by_cases e : s = i
    · subst e
      rw [up_same, hh]
    · rw [up_ne _ _ e]
  refine ⟨⟨R.r.n0, R.r.hm, fun s hs h1 h2 => ?_⟩, ?_, fun s s' hs hs' h1 h2 => ?_⟩
  · rw [hH] at h2 ⊢
    obtain ⟨a, b⟩ := R.r.rh s hs (fun e => h1 ((hz _).2 e)) h2
    exact ⟨fun e => a ((hz _).1 e), by rw [hH]; exact b⟩
  · obtain ⟨s, hs, h⟩ := R.z
    exact ⟨s, hs, by rw [hH, hz]; exact h⟩
  · by_cases e : s = i
    · subst e
      rw [up_same] at h2
      by_cases e' : s' = s
      · exact e'.symm
      · rw [up_ne _ _ e'] at h2
        exact absurd h2.symm (hn s' hs')
    · rw [up_ne _ _ e] at h1 h2
      by_cases e' : s' = i
      · subst e'
        rw [up_same] at h2
        exact absurd h2 (hn s hs)
      · rw [up_ne _ _ e'] at h2
        exact R.nd s s' hs hs' h1 h2
section
variable {w0 W W' w : World} {q : MH} {S : SS} {x y : Nat} {t u v : TM} {L : Nat → Prop} {E : Nat → HB} {B : Nat → List Nat}
/-- A block that no slot names is given back. -/
theorem g_give (g : GI w0 q S L u E B W) (hx : L x) (hn : ¬ InT 224 u.sl x) : Calls Tryz.prog 55 #[.pointer (some ⟨q.m, 0, none⟩), .int .i64 x] W fun e w' => e = .returned (.int .i64 0) ∧ Fr q.blocks W w' ∧ ∃ S' v, GI w0 q S' (fun y => L y ∧ y ≠ x) v E B w' ∧ v.sl = u.sl := by
  obtain ⟨n, lv⟩ := g.lv x hx
  rw [← g.a] at lv
  obtain ⟨S', e1, e2⟩ := give_plain' g.sl g.h.m.ok lv
  have hc := sgive g.h g.sl x
  rw [e1] at hc
  refine hc.mono fun e' w' ⟨he, v, k1, k2, k3, k4, k5⟩ => ⟨he, k5, S', v, ?_, k3.sl⟩
  have ix' : IxI u (fun y => L y ∧ y ≠ x) E := ⟨fun y hy => g.ix.e y hy.1, fun i hi => (g.ix.sl i hi).imp id (fun h => ⟨h, fun e => hn ⟨i, by rw [← g.s]; exact hi, e⟩⟩), g.ix.s0, g.ix.s1⟩
  have lb' : LbI u (fun y => L y ∧ y ≠ x) E B := fun y hy => g.lb y hy.1
  have lv' : ∀ y, L y ∧ y ≠ x → LvP S' y := fun y hy => by
    obtain ⟨m, hm⟩ := g.lv y hy.1
    rw [← g.a] at hm
    have := (e2 y m).2 ⟨hm, hy.2⟩
    rw [g.a] at this
    exact ⟨m, this⟩
  obtain ⟨r1, r2, r3⟩ := ix'.keepTo lb' k3.a k3.s k3.sl (fun y hy => by
    obtain ⟨m, hm⟩ := g.lv y hy.1
    rw [← g.a] at hm
    have hm' : Lv v.a S' y m := by rw [k3.a]; exact (e2 y m).2 ⟨hm, hy.2⟩
    obtain ⟨b1, b2, b3, b4, b5, b6, b7⟩ := lv_at k2 k1.m.ok hm'
    refine ⟨fun g g1 g2 => b7 g g1 (by omega), by omega, fun k hk => ?_⟩
    obtain ⟨i, hi, hyi, rfl⟩ := hm
    exact k4 i hi y hyi (fun _ e => hy.2 (by omega)) k (by omega))
  exact ⟨k1, k2, r1, by rw [k3.sl, r3]; exact g.rh, r2, lv', k3.a.trans g.a, k3.s.trans g.s, k3.ft.trans g.ft, g.f.step k5 (fun k hk => .inr (g.hq k hk)), g.hq⟩
/-- What Move answers, and what it leaves. -/
def MvG (w0 : World) (q : MH) (S : SS) (L : Nat → Prop) (u : TM) (E : Nat → HB) (B : Nat → List Nat) (w' : World) (y : Nat) (e : Ending) : Option Nat → Prop
  | none => e = .returned (.int .i64 7) ∧ GI w0 q S L u E B w'
  | some i => e = .returned (.int .i64 0) ∧ GI w0 q S L (u.wsl (up u.sl i y)) E B w'
theorem g_mov (g : GI w0 q S L u E B W) (hx : L x) (hy : L y) (hh : (E x).hash = (E y).hash) (hyn : ¬ InT 224 u.sl y) (R : Option Nat) (hR : fndT u.sl (hmE u E) 224 (hmE u E x) (fun z => z == x) = R) :
    Calls Tryz.prog 28 #[.pointer (some ⟨q.m, 0, none⟩), .int .i64 x, .int .i64 y] W fun e w' => Fr q.blocks W w' ∧ MvG w0 q S L u E B w' y e R := by
  have hs := g.s
  have hf := (g.rh.found (g.ne0 hx).1).1
  have hRi : ∀ i, R = some i → i < 224 ∧ u.sl i = x := fun i e => hf i (by rw [hR, e])
  refine (imove g.h g.ix hx hy hh (by have := (g.ne0 hy).2; omega) R (by
    have e : (E x).hash % u.s = hmE u E x := rfl
    rw [e, hs]
    exact hR) (fun i e => by rw [hs]; exact (hRi i e).1)).mono fun e w' ⟨hm, hfr⟩ => ⟨hfr, ?_⟩
  cases R with
  | none => exact ⟨hm.1, g.same hm.2 hfr⟩
  | some i =>
    obtain ⟨hi, hti⟩ := hRi i rfl
    refine ⟨hm.1, g.slots hm.2 hfr (fun s hs' => ?_) (g.rh.ren (by rw [hti]; exact (g.ne0 hx).1) (g.ne0 hy).1 (fun s hs' e => hyn ⟨s, hs', e⟩) (by
      rw [hti]
      unfold hmE
      rw [hh]))⟩
    by_cases e : s = i
    · subst e
      rw [up_same]
      exact .inr hy
    · rw [up_ne _ _ e]
      exact g.ix.sl s (by rw [g.s]; exact hs')
theorem g_kind (g : GI w0 q S L u E B W) (x : Int) : Calls Tryz.prog 26 #[.pointer (some ⟨q.m, 0, none⟩), .int .i64 x, .int .i64 4] W fun e w' => e = .returned (.int .i64 (kindL u.kinds x 4)) ∧ w' = W := mkind W q u.ms g.h.m.m x 4
theorem g_bad (g : GI w0 q S L u E B W) (x : Int) (hx : NoB u x) :
    (Calls Tryz.prog 22 #[.pointer (some ⟨q.m, 0, none⟩), .int .i64 x] W fun e w' => e = .returned (.int .i64 30) ∧ Fr q.blocks W w' ∧ GI w0 q S L u E B w') ∧
    (Calls Tryz.prog 20 #[.pointer (some ⟨q.m, 0, none⟩), .int .i64 x] W fun e w' => e = .returned (.int .i64 30) ∧ Fr q.blocks W w' ∧ GI w0 q S L u E B w') ∧
    (Calls Tryz.prog 27 #[.pointer (some ⟨q.m, 0, none⟩), .int .i64 x] W fun e w' => e = .returned (.tuple #[.int .i64 0, .bool false]) ∧ Fr q.blocks W w' ∧ GI w0 q S L u E B w') ∧
    (Calls Tryz.prog 28 #[.pointer (some ⟨q.m, 0, none⟩), .int .i64 x, .int .i64 x] W fun e w' => e = .returned (.int .i64 30) ∧ Fr q.blocks W w' ∧ GI w0 q S L u E B w') := by
  have h0 := g.ix.s0
  exact ⟨(ins_bad g.h g.sl h0 x hx).mono fun e w' ⟨he, k1, k2⟩ => ⟨he, k2, g.same k1 k2⟩, (del_bad g.h g.sl h0 x hx).mono fun e w' ⟨he, k1, k2⟩ => ⟨he, k2, g.same k1 k2⟩,
    (plc_bad g.h g.sl h0 x hx).mono fun e w' ⟨he, k1, k2⟩ => ⟨he, k2, g.same k1 k2⟩, (mov_bad g.h g.sl h0 x hx).mono fun e w' ⟨he, k1, k2⟩ => ⟨he, k2, g.same k1 k2⟩⟩
end
end Go.Proofs.YtmemoopkgjgmiaaGreatDoor

/- All slots; that they are those of the document's cells. -/
namespace Go.Proofs.YtmemoopkgjgmiaaGreatDoor
set_option linter.unusedVariables false
set_option linter.unusedSimpArgs false
open Go.RowKit

theorem info_u32 : (Tryz.prog.info? 30).map (fun i => (i.zero, i.size, i.bytes)) = some (some (.int .u32 0), 1, 4) := by kernel_rfl
/-- A row of 32-bit numbers. -/
def uC (T : Nat → Nat) (n : Nat) : List Value := (List.range n).map fun i => .int .u32 (T i)
theorem uC_succ (T : Nat → Nat) (n : Nat) : uC T (n + 1) = uC T n ++ [.int .u32 (T n)] := by simp [uC, List.range_succ]
def Ru (W : World) (base : Nat) (v : Value) (n : Nat) (T : Nat → Nat) : Prop := W.ownsRow base 30 1 v n (uC T n)
theorem Ru.lt {W : World} {base n : Nat} {v : Value} {T : Nat → Nat} (h : Ru W base v n T) (g : Nat) (e : v.ownBlock = some g) : base ≤ g ∧ g < W.heap.size := by
  obtain ⟨h1, ⟨rfl, h2⟩ | ⟨g', cap, cur, rfl, hb, hg, _⟩⟩ := h
  · cases e
  · injection e with e
    have e : g' = g := e
    subst e
    exact ⟨hb, (Array.getElem?_eq_some_iff.1 hg).1⟩
theorem Ru.fr {W W' : World} {base n : Nat} {v : Value} {T : Nat → Nat} {S : List Nat} (h : Ru W base v n T) (hf : Fr S W W') (hS : ∀ k ∈ S, k < base) : Ru W' base v n T := by
  obtain ⟨h1, ⟨h2, h3⟩ | ⟨g, cap, cur, rfl, hb, hg, r1, r2, r3, r4⟩⟩ := h
  · exact ⟨h1, .inl ⟨h2, h3⟩⟩
  · exact ⟨h1, .inr ⟨g, cap, cur, rfl, hb, (hf.block g (Array.getElem?_eq_some_iff.1 hg).1 (fun hm => by have := hS g hm; omega)).trans hg, r1, r2, r3, r4⟩⟩
theorem Ru.nil (W : World) (base : Nat) (T : Nat → Nat) : Ru W base (.slice none 0 0) 0 T := ⟨rfl, .inl ⟨rfl, rfl⟩⟩
theorem Ru.row {W : World} {base n : Nat} {v : Value} {T : Nat → Nat} (h : Ru W base v n T) (h0 : 0 < n) : ∃ g cap, v = .slice (some ⟨g, 0, none⟩) n cap ∧ base ≤ g ∧ n ≤ cap ∧ ∀ V S, Fr S W V → g ∉ S → ∀ i, i < n → V.cell? ⟨g, i, none⟩ = some (.int .u32 (T i)) := by
  obtain ⟨h1, ⟨h2, h3⟩ | ⟨g, cap, cur, rfl, hb, hg, r1, r2, r3, r4⟩⟩ := h
  · omega
  · refine ⟨g, cap, rfl, hb, r1, fun V S hV hS i hi => ?_⟩
    have hk : Blk V g 30 cur := Blk.fr (w := W) hg hV hS
    have e : (uC T n)[i]? = some (.int .u32 (T i)) := by simp [uC, hi]
    rw [hk.cell, ← e, ← r4, List.getElem?_take_of_lt (by omega), Array.getElem?_toList]
set_option maxRecDepth 100000 in
theorem wpList_appU {w : World} {ops : Array Oper} {rest : List Oper} {o : Oper} {a : Act} {Q : Exit → Act → World → Prop} (hgd : o.guard = none) (s x : Operand) (ho : o.op = .call { callee := .builtin .append, args := #[s, x], argTypes := #[126, 126] }) (hty : o.type = 126)
    (base : Nat) (v : Value) (n : Nat) (T : Nat → Nat) (hs : a.eval s = v) (W0 : World) (hW : w = W0.alloc (.cells #[.int .u32 (T n)] 30)) (hown : Ru W0 base v n T) (hx : a.eval x = .slice (some ⟨W0.heap.size, 0, none⟩) 1 1)
    (hl : n ≤ 1048576) (hbase : base ≤ W0.heap.size)
    (h : ∀ v' w', Ru w' base v' (n + 1) T → Fr (ownS v) W0 w' → wpList Tryz.prog ops Q rest (a.put o.dst v') w') : wpList Tryz.prog ops Q (o :: rest) a w := by
  subst hW
  obtain ⟨i0, hi, hz0, hz1, hz2⟩ := info_parts info_u32
  refine wpList_plain hgd fun K hK => ?_
  obtain ⟨v', w', hrun, h2, h3, _, h5⟩ := run_append_own_at (P := Tryz.prog) (W0.alloc (.cells #[.int .u32 (T n)] 30)) base 126 126 30 i0 (.int .u32 0) 1 4 Tryz.underlying126 hi hz0 hz1 hz2 rfl (by decide) v n (uC T n) (hown.alloc _) ⟨W0.heap.size, 0, none⟩ 1 1 [.int .u32 (T n)] (by simp) (cells_new1 _ _ _) (by simp [Value.oneCell']) (by unfold maxLen; omega) (by omega) (by simp; omega)
  have h2' : Ru w' base v' (n + 1) T := by
    unfold Ru
    rw [uC_succ]
    exact h2
  have hK' := hK _ _ (h v' w' h2' (fr_grown h3))
  unfold Oper.wp execOp
  simp only [ho, hty, resolve, invoke, builtin, Sem.run_bind, Sem.run_pure, Result.andThen_ok, List.map_toArray, List.map_cons, List.map_nil, hs, hx, hrun]
  exact hK'
section
variable {w0 W W' w : World} {q : MH} {S : SS} {x y : Nat} {t u v : TM} {L : Nat → Prop} {E : Nat → HB} {B : Nat → List Nat}
set_option maxRecDepth 100000 in
theorem islots (g : GI w0 q S L u E B w) : Calls Tryz.prog 82 #[.pointer (some ⟨q.m, 0, none⟩)] w fun e w' => ∃ v, e = .returned v ∧ Ru w' w.heap.size v 224 u.sl ∧ Fr q.blocks w w' ∧ GI w0 q S L u E B w' := by
  have hlt := g.h.m.lt
  have hgx := g.gx
  have hsz := g.f.size
  have HQ := Lib.hid (show ∀ k ∈ q.blocks, k < w.heap.size from fun k hk => hlt k hk)
  have HOW := Lib.hid (fun V V' v (hV : GI w0 q S L u E B V) (hf : Fr (ownS v) V V') (hv : ∀ g, v.ownBlock = some g → w.heap.size ≤ g) => (show GI w0 q S L u E B V' from hV.frL hf (fun k hk => by
    have h1 := hv k (ownS_mem hk)
    exact ⟨fun hm => by have := hlt k hm; omega, by omega, by omega⟩)))
  have HFW := Lib.hid (fun V V' v (hV : Fr q.blocks w V) (hf : Fr (ownS v) V V') (hv : ∀ g, v.ownBlock = some g → w.heap.size ≤ g) => (show Fr q.blocks w V' from hV.step hf (fun k hk => .inr (hv k (ownS_mem hk)))))
  have hof := (show Calls Tryz.prog 96 #[.pointer (some ⟨q.m, 0, none⟩)] w fun e w' => e = .returned (.agg #[.pointer (some ⟨q.m, 0, none⟩), .int .i64 224]) ∧ Fr [] w w' from by
    have := iof g.h.m
    rw [tbV, g.s] at this
    exact this)
  have HGT := Lib.hid (fun V (hV : GI w0 q S L u E B V) (k : Nat) (hk : k < 224) => (show Calls Tryz.prog 99 #[.agg #[.pointer (some ⟨q.m, 0, none⟩), .int .i64 224], .int .i64 k] V fun e w' => e = .returned (.int .i64 (u.sl k)) ∧ Fr q.blocks V w' ∧ GI w0 q S L u E B w' from by
    have := iget hV.h.m k (by omega) (by rw [g.s]; decide)
    rw [tbV, g.s, Nat.mod_eq_of_lt hk] at this
    exact this.mono fun e w' ⟨he, k1, k2⟩ => ⟨he, k2, hV.same (hV.h.step k1 k2) k2⟩))
  have HTB := Lib.hid (show ∀ i, u.sl i < 4294967296 from fun i => g.h.m.ok.sl i)
  have HG := Lib.hid g
  generalize u.sl = T at *
  clear g hlt hgx hsz
  go_enter Tryz.func82, Tryz.ntmps82
  go_wp2_with fail
  with_reducible refine hof.mono ?_
  rintro e w1 ⟨rfl, f1⟩
  have hb1 := Blk.new w1 146 #[.pointer (some ⟨q.m, 0, none⟩), .int .i64 224]
  have G1 := Lib.hid ((HG.out.fr0 f1).fr0 ((Fr.refl [] w1).alloc (.cells #[.pointer (some ⟨q.m, 0, none⟩), .int .i64 224] 146)))
  have F1 := Lib.hid ((f1.nil (S := q.blocks)).alloc (.cells #[.pointer (some ⟨q.m, 0, none⟩), .int .i64 224] 146))
  have hs1 := f1.size
  have B1 := Lib.hid hb1
  have hs2 : w.heap.size ≤ (w1.alloc (.cells #[.pointer (some ⟨q.m, 0, none⟩), .int .i64 224] 146)).heap.size := F1.out.size
  have hlw := hb1.lt
  clear f1 hof hb1 HG
  go_wp2_with fail
  generalize hgt : w1.heap.size = gt at *
  generalize w1.alloc (.cells #[.pointer (some ⟨q.m, 0, none⟩), .int .i64 224] 146) = w2 at *
  go_loopw [4, 10] (fun v i W => ∃ k : Nat, k ≤ 224 ∧ i = .int .i64 k ∧ Ru W w2.heap.size v k T ∧ Fr q.blocks w W ∧ Fr q.blocks w2 W ∧ GI w0 q S L u E B W) (fun _ i _ => 224 - (intOf i).toNat)
  case atStart => exact ⟨0, by omega, rfl, Ru.nil _ _ _, F1.out, Fr.refl _ _, G1.out⟩
  case round =>
    rename_i v0
    obtain ⟨k, hk, rfl, hR, hF, hF2, hG⟩ := hrel
    have RR := Lib.hid hR
    have FF := Lib.hid hF
    have F2 := Lib.hid hF2
    have n1 : (0 : Int) ≤ k := by omega
    have wk : IntKind.i64.wrap ((k : Int) + 1) = (k : Int) + 1 := IntWalk.i64_in _ (by omega)
    have hn1 : gt ∉ q.blocks := fun hm => by have := HQ.out _ hm; omega
    have d0 := (B1.out.fr hF2 hn1).cell 0
    have d1 := (B1.out.fr hF2 hn1).cell 1
    simp only [List.getElem?_toArray, List.getElem?_cons_zero, List.getElem?_cons_succ] at d0 d1
    by_cases hlt : k < 224
    · have b1 : decide ((k : Int) < 224) = true := decide_eq_true (by omega)
      have b1' : decide (k < 224) = true := decide_eq_true hlt
      have hg := HGT.out _ hG k hlt
      have htb := HTB.out k
      have wt : IntKind.u32.wrap (T k : Int) = T k := IntWalk.u32_in _ (by omega)
      clear hR hF hF2 hG
      go_wp2_with fail
      with_reducible refine hg.mono ?_
      rintro e w3 ⟨rfl, f3, g3⟩
      have G3 := Lib.hid g3
      have R3 := Lib.hid (RR.out.fr f3 (fun k hk => by have := HQ.out k hk; omega))
      have F3 := Lib.hid (FF.out.trans f3)
      have F23 := Lib.hid (F2.out.trans f3)
      have hs3 : w2.heap.size ≤ w3.heap.size := F23.out.size
      have hl3 : k ≤ 1048576 := by omega
      clear f3 g3 hg
      go_wp2_with (first | (at_builtin; refine wpList_appU rfl _ _ rfl rfl w2.heap.size _ k T rfl w3 rfl R3.out rfl hl3 hs3 ?_; intro v1 w4 hO1 hF1) | fail)
      have G4 := Lib.hid (HOW.out _ _ _ G3.out hF1 (fun g e => Nat.le_trans hs2 (R3.out.lt g e).1))
      have F4 := Lib.hid (HFW.out _ _ _ F3.out hF1 (fun g e => Nat.le_trans hs2 (R3.out.lt g e).1))
      have F24 := Lib.hid (F23.out.step hF1 (fun k hk => .inr (R3.out.lt k (ownS_mem hk)).1))
      have R4 := Lib.hid hO1
      clear hO1 hF1
      go_roundw
      case rel => exact ⟨k + 1, by omega, by go_num, R4.out, F4.out, F24.out, G4.out⟩
      case measure => simp [intOf]; omega
    · have b1 : decide ((k : Int) < 224) = false := decide_eq_false (by omega)
      have b1' : decide (k < 224) = false := decide_eq_false hlt
      obtain rfl : k = 224 := by omega
      have G5 := Lib.hid hG
      clear hR hF hF2 hG hlt
      go_wp2_with fail
      go_ret
      exact ⟨_, rfl, by
        obtain ⟨h1, h2 | ⟨g, cap, cur, h2, hb, r⟩⟩ := RR.out
        · exact ⟨h1, .inl h2⟩
        · exact ⟨h1, .inr ⟨g, cap, cur, h2, Nat.le_trans hs2 hb, r⟩⟩, FF.out, G5.out⟩
end
end Go.Proofs.YtmemoopkgjgmiaaGreatDoor

/- IndexPlays: the slots are those of the document's cells; the N-th block. -/
namespace Go.Proofs.YtmemoopkgjgmiaaGreatDoor
set_option linter.unusedVariables false
set_option linter.unusedSimpArgs false
open Go.RowKit

section
variable {w0 W W' w : World} {q : MH} {S : SS} {x y : Nat} {t u v : TM} {Ls : Nat → Prop} {E : Nat → HB} {B : Nat → List Nat} {px base gt ct cap : Nat} {H : Nat → Nat} {L : List RB} {ad : Option Addr}
set_option maxRecDepth 100000 in
theorem w_same (g : GI w0 q S Ls u E B w) (h : IsX w px base u.sl H L gt ct ad cap) (hb : ∀ k ∈ q.blocks, k < base) : Calls Tryz.prog 30 #[.pointer (some ⟨q.m, 0, none⟩), .pointer (some ⟨px, 0, none⟩)] w fun e w' => e = .returned (.bool true) ∧ Fr q.blocks w w' ∧ GI w0 q S Ls u E B w' := by
  have hsl := islots g
  have HX := Lib.hid h
  have HB := Lib.hid hb
  generalize hT : u.sl = T at *
  clear g h hb
  go_enter Tryz.func30, Tryz.ntmps30
  go_wp2_with fail
  with_reducible refine hsl.mono ?_
  rintro e w1 ⟨v, rfl, hR, f1, g1⟩
  obtain ⟨gl, cl, rfl, hgl, hcl, hcell⟩ := hR.row (by decide)
  have F1 := Lib.hid f1
  have G1 := Lib.hid g1
  have X1 := Lib.hid (HX.out.fr f1 HB.out)
  have HC := Lib.hid (fun V (hV : Fr [] w1 V) i (hi : i < 224) => (show V.cell? ⟨gl, i, none⟩ = some (.int .u32 (T i)) ∧ V.cell? ⟨px, 0, none⟩ = some (.slice (some ⟨gt, 0, none⟩) 224 ct) ∧ V.cell? ⟨gt, i * 2, none⟩ = some (.int .u32 (T i)) from by
    have hx := X1.out.fr0 hV
    have e := hx.t.id hi
    rw [cT_id] at e
    exact ⟨hcell V [] hV (by simp) i hi, hx.c0, e⟩))
  have hct := X1.out.t.le
  have c0 := X1.out.c0
  clear hsl hR f1 g1 hcell hgl
  go_wp2_with fail
  go_loopw [6] (fun v W => ∃ i : Nat, i ≤ 224 ∧ v = .int .i64 i ∧ Fr [] w1 W) (fun v _ => 224 - (intOf v).toNat)
  case atStart => exact ⟨0, by omega, rfl, Fr.refl _ _⟩
  case round =>
    obtain ⟨i, hi, rfl, hF⟩ := hrel
    have F2 := Lib.hid hF
    have n1 : (0 : Int) ≤ i := by omega
    have wi : IntKind.i64.wrap ((i : Int) + 1) = (i : Int) + 1 := IntWalk.i64_in _ (by omega)
    by_cases hlt : i < 224
    · have b1 : decide ((i : Int) < 224) = true := decide_eq_true (by omega)
      have b1' : decide (i < 224) = true := decide_eq_true hlt
      have n2 : (i : Int) < 224 := by omega
      obtain ⟨d0, d1, d2⟩ := HC.out _ hF i hlt
      generalize T i = ti at *
      have b2 : ((ti : Int) != ti) = false := by simp
      clear hF c0
      go_wp2_with fail
      go_quiet (fail)
      go_wp2_with fail
      go_roundw
      case rel => exact ⟨i + 1, by omega, by go_num, F2.out.drewN _⟩
      case measure => simp [intOf]; omega
    · have b1 : decide ((i : Int) < 224) = false := decide_eq_false (by omega)
      have b1' : decide (i < 224) = false := decide_eq_false hlt
      clear hF c0 hlt
      go_wp2_with fail
      go_ret
      exact ⟨rfl, F1.out.trans F2.out.nil, G1.out.fr0 F2.out⟩
/-- The N-th block; without any: none. -/
def nthB (L : List RB) (n : Int) : RB := L[nthZ n L.length]?.getD ⟨0, false, 0, 0, [], 0⟩
set_option maxRecDepth 100000 in
theorem x_nth (h : IsX w px base u.sl H L gt ct ad cap) (n : Int) : Calls Tryz.prog 19 #[.pointer (some ⟨px, 0, none⟩), .int .i64 n] w fun e w' => e = .returned (.tuple #[.agg #[.int .i64 (nthB L n).at_, .bool (nthB L n).nd, .int .u32 (nthB L n).nm, .int .u16 (nthB L n).ty, .string (strOf (nthB L n).lab), .int .u32 (nthB L n).hs], .bool (decide (0 < L.length))]) ∧ Fr [] w w' := by
  have hlen := h.len
  have c1 := h.c1
  have HF := Lib.hid (fun (cs : Array Value) => (Fr.refl [] w).alloc (.cells cs 33))
  by_cases h0 : L.length = 0
  · have hL : L = [] := List.eq_nil_of_length_eq_zero h0
    subst hL
    rw [show nthB [] n = ⟨0, false, 0, 0, [], 0⟩ from rfl, show decide (0 < ([] : List RB).length) = false from rfl]
    have b0 : (((0 : Nat) : Int) == 0) = true := rfl
    have hse : strOf [] = ⟨#[]⟩ := rfl
    simp only [hse]
    have c2 : (w.alloc (.cells #[.int .i64 0, .bool false, .int .u32 0, .int .u16 0, .string ⟨#[]⟩, .int .u32 0] 33)).cell? ⟨px, 1, none⟩ = some (.slice ad 0 cap) := (h.fr0 (HF.out #[.int .i64 0, .bool false, .int .u32 0, .int .u16 0, .string ⟨#[]⟩, .int .u32 0])).c1
    have F2 := Lib.hid (HF.out #[.int .i64 0, .bool false, .int .u32 0, .int .u16 0, .string ⟨#[]⟩, .int .u32 0])
    have HP := Lib.hid (show ∀ w', Fr [] w w' → (Ending.returned (.tuple #[.agg #[.int .i64 0, .bool false, .int .u32 0, .int .u16 0, .string ⟨#[]⟩, .int .u32 0], .bool false]) = .returned (.tuple #[.agg #[.int .i64 0, .bool false, .int .u32 ((0 : Nat) : Int), .int .u16 ((0 : Nat) : Int), .string ⟨#[]⟩, .int .u32 ((0 : Nat) : Int)], .bool false]) ∧ Fr [] w w') from fun w' h => ⟨rfl, h⟩)
    clear h hlen h0 c1
    go_enter Tryz.func19, Tryz.ntmps19
    go_wp2_with fail
    have hB3 := Blk.new w 33 #[.int .i64 0, .bool false, .int .u32 0, .int .u16 0, .string ⟨#[]⟩, .int .u32 0]
    have q0 := hB3.cell 0
    have q1 := hB3.cell 1
    have q2 := hB3.cell 2
    have q3 := hB3.cell 3
    have q4 := hB3.cell 4
    have q5 := hB3.cell 5
    simp only [List.getElem?_toArray, List.getElem?_cons_zero, List.getElem?_cons_succ] at q0 q1 q2 q3 q4 q5
    refine bodyPost_ret (by simp [results, Tryz.results19, go_sem, q0, q1, q2, q3, q4, q5]; try rfl) rfl (HP.out _ F2.out)
  · have hlt := nthZ_lt n L.length (by omega)
    have hnb : nthB L n = L[nthZ n L.length] := by unfold nthB; rw [List.getElem?_eq_getElem hlt]; rfl
    rw [hnb, decide_eq_true (by omega : 0 < L.length)]
    have hmx := nthZ_max n L.length
    obtain ⟨t1, t2⟩ := tmod_in n L.length (by omega) (by omega)
    have b1 : ((L.length : Int) == 0) = false := by rw [beq_eq_false_iff_ne]; omega
    have b1' : (L.length == 0) = false := by rw [beq_eq_false_iff_ne]; omega
    have b2 : ((L.length : Int) ≠ 0) := by omega
    obtain ⟨g, rfl, _, hr⟩ := h.row (by omega)
    have hcap := hr.le
    have f0 := HF.out #[.int .i64 0, .bool false, .int .u32 0, .int .u16 0, .string ⟨#[]⟩, .int .u32 0]
    have hr0 := hr.fr f0 (by simp)
    have d0 := hr0.cell _ hlt 0 (by decide)
    have d1 := hr0.cell _ hlt 1 (by decide)
    have d2 := hr0.cell _ hlt 2 (by decide)
    have d3 := hr0.cell _ hlt 3 (by decide)
    have d4 := hr0.cell _ hlt 4 (by decide)
    have d5 := hr0.cell _ hlt 5 (by decide)
    have c2 := (h.fr0 f0).c1
    have HF3 := Lib.hid (HF.out #[.int .i64 L[nthZ n L.length].at_, .bool L[nthZ n L.length].nd, .int .u32 L[nthZ n L.length].nm, .int .u16 L[nthZ n L.length].ty, .string (strOf L[nthZ n L.length].lab), .int .u32 L[nthZ n L.length].hs])
    generalize L[nthZ n L.length] = y at *
    obtain ⟨ya, yd, ym, yt, yl, yh⟩ := y
    simp only [RB.cl, List.getElem?_cons_zero, List.getElem?_cons_succ, Nat.add_zero] at d0 d1 d2 d3 d4 d5 HF3 ⊢
    generalize strOf yl = sy at *
    generalize nthZ n L.length = k at *
    generalize hm : L.length = m at *
    generalize hR : n.tmod (m : Int) = r at *
    have k0 : (0 : Int) ≤ k := by omega
    have k1 : (k : Int) < m := by omega
    clear hr hr0 hlen hlt f0 hnb h0 c1 h
    go_enter Tryz.func19, Tryz.ntmps19
    go_wp2_with fail
    have hB3 := Blk.new w 33 #[.int .i64 ya, .bool yd, .int .u32 ym, .int .u16 yt, .string sy, .int .u32 yh]
    have q0 := hB3.cell 0
    have q1 := hB3.cell 1
    have q2 := hB3.cell 2
    have q3 := hB3.cell 3
    have q4 := hB3.cell 4
    have q5 := hB3.cell 5
    simp only [List.getElem?_toArray, List.getElem?_cons_zero, List.getElem?_cons_succ] at q0 q1 q2 q3 q4 q5
    refine bodyPost_ret (by simp [results, Tryz.results19, go_sem, q0, q1, q2, q3, q4, q5]; try rfl) rfl ⟨rfl, HF3.out⟩
end
end Go.Proofs.YtmemoopkgjgmiaaGreatDoor

/- IndexPlays: the memory's index and the document's, side by side: Insert, Delete, Place. -/
namespace Go.Proofs.YtmemoopkgjgmiaaGreatDoor
set_option linter.unusedVariables false
set_option linter.unusedSimpArgs false
open Go.RowKit

/-- The document's blocks are the live ones. -/
structure KLs (Ls : Nat → Prop) (E : Nat → HB) (B : Nat → List Nat) (L : List RB) : Prop where
  i : ∀ b ∈ L, ∃ x, KB Ls E B b x
  a : ∀ x, Ls x → ∃ b ∈ L, b.at_ = x
  nd : (L.map RB.at_).Nodup
/-- Both sides. -/
def PS (w0 : World) (q : MH) (px base : Nat) (L : List RB) (W : World) : Prop := ∃ S Ls u E B gt ct ad cap, GI w0 q S Ls u E B W ∧ IsX W px base u.sl (hmE u E) L gt ct ad cap ∧ KLs Ls E B L
/-- Where what is the walk's own begins. -/
structure PC (w0 : World) (q : MH) (base : Nat) : Prop where
  q : ∀ k ∈ q.blocks, k < base
  gx : 5 ≤ base
  w : w0.heap.size ≤ base
section
variable {w0 W W' w : World} {q : MH} {S : SS} {x y p : Nat} {t u v : TM} {Ls : Nat → Prop} {E : Nat → HB} {B : Nat → List Nat} {px base gt ct cap : Nat} {L : List RB} {ad : Option Addr} {b : RB}
theorem PC.own (c : PC w0 q base) (g : GI w0 q S Ls u E B W) (hp : base ≤ px) (hf : Fr [px] W W') : GI w0 q S Ls u E B W' := g.frL hf (fun k hk => by
  simp at hk
  subst hk
  have := c.gx
  have := c.w
  exact ⟨fun hm => by have := c.q k hm; omega, by omega, by omega⟩)
theorem PS.f (h : PS w0 q px base L W) : Fr [] w0 W := by
  obtain ⟨S, Ls, u, E, B, gt, ct, ad, cap, g, _⟩ := h
  exact g.f
theorem PS.fr0 (h : PS w0 q px base L W) (hf : Fr [] W W') : PS w0 q px base L W' := by
  obtain ⟨S, Ls, u, E, B, gt, ct, ad, cap, g, k, r⟩ := h
  exact ⟨S, Ls, u, E, B, gt, ct, ad, cap, g.fr0 hf, k.fr0 hf, r⟩
theorem PS.le_px (h : PS w0 q px base L W) : base ≤ px := by
  obtain ⟨S, Ls, u, E, B, gt, ct, ad, cap, g, k, r⟩ := h
  exact k.px
theorem KLs.at_ (k : KLs Ls E B L) (g : GI w0 q S Ls u E B W) (hx : Ls x) : ∃ p, At20 (hmE u E) L x p ∧ ∀ hp : p < L.length, KB Ls E B L[p] x := by
  obtain ⟨b, hb, e⟩ := k.a x hx
  obtain ⟨p, hp, rfl⟩ := List.mem_iff_getElem.1 hb
  obtain ⟨x', kb⟩ := k.i _ hb
  obtain rfl : x' = x := Int.ofNat.inj (kb.at_.symm.trans e)
  obtain ⟨h0, h1⟩ := g.ne0 kb.l
  refine ⟨p, ⟨hp, e, fun j hj hjp e2 => ?_, ?_, kb.ok.hs, h0, h1⟩, fun _ => kb⟩
  · have := (List.pairwise_iff_getElem.1 k.nd) j p (by rw [List.length_map]; omega) (by rw [List.length_map]; omega) hjp
    rw [List.getElem_map, List.getElem_map] at this
    exact this (e2.trans e.symm)
  · unfold hmE
    rw [kb.e, g.s]
    unfold rbX
    split <;> rfl
theorem fnd_in (g : GI w0 q S Ls u E B W) (hx : Ls x) {i : Nat} (hi : i < 224) (he : u.sl i = x) : fndT u.sl (hmE u E) 224 (hmE u E x) (fun z => z == x) = some i := by
  have h0 := (g.ne0 hx).1
  obtain ⟨f1, f2⟩ := g.rh.found h0
  cases hf : fndT u.sl (hmE u E) 224 (hmE u E x) (fun z => z == x) with
  | none => exact absurd he (f2 hf i hi)
  | some j =>
    obtain ⟨hj, ej⟩ := f1 j hf
    rw [g.rh.nd j i hj hi (by rw [ej]; exact h0) (ej.trans he.symm)]
theorem fnd_no (g : GI w0 q S Ls u E B W) (hx : Ls x) (hn : ¬ InT 224 u.sl x) : fndT u.sl (hmE u E) 224 (hmE u E x) (fun z => z == x) = none := by
  cases hf : fndT u.sl (hmE u E) 224 (hmE u E x) (fun z => z == x) with
  | none => rfl
  | some j => exact absurd ⟨j, (g.rh.found (g.ne0 hx).1).1 j hf⟩ hn
theorem ps_ins (c0 : PC w0 q base) (h : PS w0 q px base L W) (hb : b ∈ L) (x : Nat) (hx : b.at_ = x) : Calls Tryz.prog 22 #[.pointer (some ⟨q.m, 0, none⟩), .int .i64 x] W fun e w' => ∃ c : Nat, e = .returned (.int .i64 c) ∧ Fr q.blocks W w' ∧
    ∀ V, Fr [] w' V → Calls Tryz.prog 23 #[.pointer (some ⟨px, 0, none⟩), .int .i64 x] V fun e w2 => e = .returned (.int .i64 c) ∧ Fr [px] V w2 ∧ PS w0 q px base L w2 := by
  obtain ⟨S, Ls, u, E, B, gt, ct, ad, cap, g, hX, k⟩ := h
  obtain ⟨x', kb⟩ := k.i b hb
  obtain rfl : x' = x := Int.ofNat.inj (kb.at_.symm.trans hx)
  obtain ⟨p, a, _⟩ := k.at_ g kb.l
  have hpx := hX.px
  refine (ix_ins g kb.l).mono fun e w' ⟨hf, hc⟩ => ?_
  have hX' := hX.fr hf c0.q
  have hbs : ∀ V, Fr [] w' V → base ≤ V.heap.size := fun V hV => by
    have := hX'.st.lt
    have := hV.size
    omega
  have fin : ∀ c : Nat, c ≠ 0 → GI w0 q S Ls u E B w' → (∀ V, Fr [] w' V → Calls Tryz.prog 108 #[.slice (some ⟨gt, 0, none⟩) 224 ct, .int .u32 x', .int .i64 (hmE u E x')] V fun e w' => ∃ tv, e = .returned (.tuple #[tv, .int .i64 c]) ∧ Fr [] V w' ∧ (c = 0 → ∃ g' c', tv = .slice (some ⟨g', 0, none⟩) 224 c' ∧ V.heap.size ≤ g' ∧ RowT w' g' c' 224 (cT u.sl (hmE u E)))) → c ≤ 30 →
      ∀ V, Fr [] w' V → Calls Tryz.prog 23 #[.pointer (some ⟨px, 0, none⟩), .int .i64 x'] V fun e w2 => e = .returned (.int .i64 c) ∧ Fr [px] V w2 ∧ PS w0 q px base L w2 := fun c hc0 hg hI hc30 V hV =>
    (x20_ins (hX'.fr0 hV) a c hc30 (fun V2 hV2 => hI V2 (hV.trans hV2)) (hbs V hV)).mono fun e w2 ⟨he, hf2, h1, _⟩ => ⟨he, hf2, S, Ls, u, E, B, gt, ct, ad, cap, c0.own (hg.fr0 hV) hpx hf2, h1 hc0, k⟩
  rcases hc with ⟨hi, he, hg⟩ | ⟨hn, hfu, he, hg⟩ | ⟨hn, he, k', gg, Q, hg⟩
  · refine ⟨8, he, hf, fin 8 (by decide) hg (fun V hV => ?_) (by decide)⟩
    have := x_ins_no (hX'.fr0 hV).t g.rh (by decide) x' (g.ne0 kb.l).1 true (by rw [if_pos rfl]; exact hi)
    exact this.mono fun e w2 ⟨he, hf⟩ => ⟨_, he, hf, fun e => absurd e (by decide)⟩
  · refine ⟨5, he, hf, fin 5 (by decide) hg (fun V hV => ?_) (by decide)⟩
    have := x_ins_no (hX'.fr0 hV).t g.rh (by decide) x' (g.ne0 kb.l).1 false (by rw [if_neg (by simp)]; exact ⟨hn, hfu⟩)
    exact this.mono fun e w2 ⟨he, hf⟩ => ⟨_, he, hf, fun e => absurd e (by decide)⟩
  · refine ⟨0, he, hf, fun V hV => (x20_ins (T' := insX u.sl 224 (hmE u E x' + k') gg x') (hX'.fr0 hV) a 0 (by decide) (fun V2 hV2 => ?_) (hbs V hV)).mono fun e w2 ⟨he, hf2, _, h2⟩ => ?_⟩
    · exact (x_ins (hX'.fr0 (hV.trans hV2)).t g.rh (by decide) Q).mono fun e w2 ⟨g', c', he, hs, hr, hf⟩ => ⟨_, he, hf, fun _ => ⟨g', c', rfl, hs, hr⟩⟩
    · obtain ⟨g', c', hx2⟩ := h2 rfl
      exact ⟨he, hf2, S, Ls, _, E, B, g', c', ad, cap, c0.own (hg.fr0 hV) hpx hf2, hx2, k⟩
theorem ps_del (c0 : PC w0 q base) (h : PS w0 q px base L W) (hb : b ∈ L) (x : Nat) (hx : b.at_ = x) : Calls Tryz.prog 20 #[.pointer (some ⟨q.m, 0, none⟩), .int .i64 x] W fun e w' => ∃ c : Nat, e = .returned (.int .i64 c) ∧ Fr q.blocks W w' ∧
    ∀ V, Fr [] w' V → Calls Tryz.prog 21 #[.pointer (some ⟨px, 0, none⟩), .int .i64 x] V fun e w2 => e = .returned (.int .i64 c) ∧ Fr [px] V w2 ∧ PS w0 q px base L w2 := by
  obtain ⟨S, Ls, u, E, B, gt, ct, ad, cap, g, hX, k⟩ := h
  obtain ⟨x', kb⟩ := k.i b hb
  obtain rfl : x' = x := Int.ofNat.inj (kb.at_.symm.trans hx)
  obtain ⟨p, a, _⟩ := k.at_ g kb.l
  have hpx := hX.px
  refine (ix_del g kb.l).mono fun e w' ⟨hf, hc⟩ => ?_
  have hX' := hX.fr hf c0.q
  have hbs : ∀ V, Fr [] w' V → base ≤ V.heap.size := fun V hV => by
    have := hX'.st.lt
    have := hV.size
    omega
  rcases hc with ⟨hn, he, hg⟩ | ⟨i, hi, ei, he, hg⟩
  · refine ⟨7, he, hf, fun V hV => (x20_del (T' := u.sl) (hX'.fr0 hV) a 7 (by decide) (fun V2 hV2 => ?_) (hbs V hV)).mono fun e w2 ⟨he, hf2, h1, _⟩ => ⟨he, hf2, S, Ls, u, E, B, gt, ct, ad, cap, c0.own (hg.fr0 hV) hpx hf2, h1 (by decide), k⟩⟩
    exact (x_del_no (hX'.fr0 (hV.trans hV2)).t g.rh (by decide) x' (g.ne0 kb.l).1 (fnd_no g kb.l hn)).mono fun e w2 ⟨he, hf⟩ => ⟨_, he, hf, fun e => absurd e (by decide)⟩
  · refine ⟨0, he, hf, fun V hV => (x20_del (T' := dlS (hmE u E) 224 223 i u.sl) (hX'.fr0 hV) a 0 (by decide) (fun V2 hV2 => ?_) (hbs V hV)).mono fun e w2 ⟨he, hf2, _, h2⟩ => ?_⟩
    · exact (x_del (hX'.fr0 (hV.trans hV2)).t g.rh (by decide) x' (g.ne0 kb.l).1 i hi (fnd_in g kb.l hi ei)).mono fun e w2 ⟨g', c', he, hs, hr, hf⟩ => ⟨_, he, hf, fun _ => ⟨g', c', rfl, hs, hr⟩⟩
    · obtain ⟨g', c', hx2⟩ := h2 rfl
      exact ⟨he, hf2, S, Ls, _, E, B, g', c', ad, cap, c0.own (hg.fr0 hV) hpx hf2, hx2, k⟩
theorem ps_place (c0 : PC w0 q base) (h : PS w0 q px base L W) (hb : b ∈ L) (x : Nat) (hx : b.at_ = x) : Calls Tryz.prog 27 #[.pointer (some ⟨q.m, 0, none⟩), .int .i64 x] W fun e w' => ∃ (i : Nat) (k : Bool), e = .returned (.tuple #[.int .i64 i, .bool k]) ∧ Fr q.blocks W w' ∧ PS w0 q px base L w' ∧
    ∀ V, Fr [] w' V → Calls Tryz.prog 31 #[.pointer (some ⟨px, 0, none⟩), .int .i64 x] V fun e w2 => e = .returned (.tuple #[.int .i64 i, .bool k]) ∧ Fr [] V w2 := by
  obtain ⟨S, Ls, u, E, B, gt, ct, ad, cap, g, hX, k⟩ := h
  obtain ⟨x', kb⟩ := k.i b hb
  obtain rfl : x' = x := Int.ofNat.inj (kb.at_.symm.trans hx)
  obtain ⟨p, a, _⟩ := k.at_ g kb.l
  refine (ix_place g kb.l).mono fun e w' ⟨hf, hg, hc⟩ => ?_
  have hX' := hX.fr hf c0.q
  have hPS : PS w0 q px base L w' := ⟨S, Ls, u, E, B, gt, ct, ad, cap, hg, hX', k⟩
  rcases hc with ⟨hn, he⟩ | ⟨i, hi, ei, he⟩
  · refine ⟨0, false, he, hf, hPS, fun V hV => ?_⟩
    have := x20_place (hX'.fr0 hV) g.rh a
    rw [fnd_no g kb.l hn] at this
    exact this
  · refine ⟨i, true, he, hf, hPS, fun V hV => ?_⟩
    have := x20_place (hX'.fr0 hV) g.rh a
    rw [fnd_in g kb.l hi ei] at this
    exact this
end
end Go.Proofs.YtmemoopkgjgmiaaGreatDoor

/- IndexPlays: a new block beside them; one that is moved. -/
namespace Go.Proofs.YtmemoopkgjgmiaaGreatDoor
set_option linter.unusedVariables false
set_option linter.unusedSimpArgs false
open Go.RowKit

/-- Both sides; where the document's blocks lie is told. -/
def PSA (w0 : World) (q : MH) (px base : Nat) (L : List RB) (ad : Option Addr) (cap : Nat) (W : World) : Prop := ∃ S Ls u E B gt ct, GI w0 q S Ls u E B W ∧ IsX W px base u.sl (hmE u E) L gt ct ad cap ∧ KLs Ls E B L
/-- A new block that no slot names; the document doesn't know it yet. -/
def PN (w0 : World) (q : MH) (px base : Nat) (L : List RB) (n : RB) (ad : Option Addr) (cap : Nat) (W : World) : Prop := ∃ S Ls u E B gt ct, ∃ x : Nat, GI w0 q S Ls u E B W ∧ IsX W px base u.sl (hmE u E) L gt ct ad cap ∧ KLs Ls E B (L ++ [n]) ∧ n.at_ = x ∧ ¬ InT 224 u.sl x
/-- A block of theirs that no slot names. -/
def PT (w0 : World) (q : MH) (px base : Nat) (L : List RB) (n : RB) (W : World) : Prop := ∃ S Ls u E B gt ct ad cap, ∃ x : Nat, GI w0 q S Ls u E B W ∧ IsX W px base u.sl (hmE u E) L gt ct ad cap ∧ KLs Ls E B L ∧ n ∈ L ∧ n.at_ = x ∧ ¬ InT 224 u.sl x
/-- The document has dropped a block that is still to be given back. -/
def PG (w0 : World) (q : MH) (px base : Nat) (L : List RB) (n : RB) (W : World) : Prop := ∃ S Ls u E B gt ct ad cap, ∃ x : Nat, GI w0 q S Ls u E B W ∧ IsX W px base u.sl (hmE u E) (L.filter (fun c => c.at_ != n.at_)) gt ct ad cap ∧ KLs Ls E B L ∧ n ∈ L ∧ n.at_ = x ∧ ¬ InT 224 u.sl x
section
variable {w0 W W' w : World} {q : MH} {S : SS} {x y p : Nat} {t u v : TM} {Ls : Nat → Prop} {E : Nat → HB} {B : Nat → List Nat} {px base gt ct cap : Nat} {L : List RB} {ad : Option Addr} {b n : RB}
theorem PT.ps (h : PT w0 q px base L n W) : PS w0 q px base L W := by
  obtain ⟨S, Ls, u, E, B, gt, ct, ad, cap, x, g, k, r, _⟩ := h
  exact ⟨S, Ls, u, E, B, gt, ct, ad, cap, g, k, r⟩
theorem PSA.ps (h : PSA w0 q px base L ad cap W) : PS w0 q px base L W := by
  obtain ⟨S, Ls, u, E, B, gt, ct, g, k, r⟩ := h
  exact ⟨S, Ls, u, E, B, gt, ct, ad, cap, g, k, r⟩
theorem PS.psa (h : PS w0 q px base L W) : ∃ ad cap, PSA w0 q px base L ad cap W := by
  obtain ⟨S, Ls, u, E, B, gt, ct, ad, cap, g, k, r⟩ := h
  exact ⟨ad, cap, S, Ls, u, E, B, gt, ct, g, k, r⟩
theorem PSA.fr0 (h : PSA w0 q px base L ad cap W) (hf : Fr [] W W') : PSA w0 q px base L ad cap W' := by
  obtain ⟨S, Ls, u, E, B, gt, ct, g, k, r⟩ := h
  exact ⟨S, Ls, u, E, B, gt, ct, g.fr0 hf, k.fr0 hf, r⟩
theorem PSA.row (h : PSA w0 q px base L ad cap W) : Rk W base (.slice ad L.length cap) L ∧ W.cell? ⟨px, 1, none⟩ = some (.slice ad L.length cap) ∧ base ≤ px ∧ px < W.heap.size := by
  obtain ⟨S, Ls, u, E, B, gt, ct, g, k, r⟩ := h
  exact ⟨k.b, k.c1, k.px, k.st.lt⟩
theorem PN.fr0 (h : PN w0 q px base L n ad cap W) (hf : Fr [] W W') : PN w0 q px base L n ad cap W' := by
  obtain ⟨S, Ls, u, E, B, gt, ct, x, g, k, r⟩ := h
  exact ⟨S, Ls, u, E, B, gt, ct, x, g.fr0 hf, k.fr0 hf, r⟩
theorem PN.row (h : PN w0 q px base L n ad cap W) : Rk W base (.slice ad L.length cap) L ∧ W.cell? ⟨px, 1, none⟩ = some (.slice ad L.length cap) ∧ base ≤ px ∧ px < W.heap.size ∧ W.frozen? ⟨px, 1, none⟩ = false := by
  obtain ⟨S, Ls, u, E, B, gt, ct, x, g, k, r⟩ := h
  exact ⟨k.b, k.c1, k.px, k.st.lt, k.st.frozen 1⟩
theorem PT.fr0 (h : PT w0 q px base L n W) (hf : Fr [] W W') : PT w0 q px base L n W' := by
  obtain ⟨S, Ls, u, E, B, gt, ct, ad, cap, x, g, k, r⟩ := h
  exact ⟨S, Ls, u, E, B, gt, ct, ad, cap, x, g.fr0 hf, k.fr0 hf, r⟩
theorem PG.fr0 (h : PG w0 q px base L n W) (hf : Fr [] W W') : PG w0 q px base L n W' := by
  obtain ⟨S, Ls, u, E, B, gt, ct, ad, cap, x, g, k, r⟩ := h
  exact ⟨S, Ls, u, E, B, gt, ct, ad, cap, x, g.fr0 hf, k.fr0 hf, r⟩
theorem IsX.congr {T T' H H' : Nat → Nat} (h : IsX W px base T H L gt ct ad cap) (he : ∀ s, s < 224 → cT T' H' s = cT T H s) : IsX W px base T' H' L gt ct ad cap := ⟨h.st, h.t.congr he, h.b, h.px, h.gt, h.len⟩
/-- The document's blocks are another row. -/
theorem IsX.setB {T H : Nat → Nat} {L' : List RB} {ad' : Option Addr} {cap' : Nat} (h : IsX W px base T H L gt ct ad cap) (hr : Rk W base (.slice ad' L'.length cap') L') (hl : L'.length ≤ 1000000) : IsX (W.setCell ⟨px, 1, none⟩ (.slice ad' L'.length cap')) px base T H L' gt ct ad' cap' := by
  have f : Fr [px] W (W.setCell ⟨px, 1, none⟩ (.slice ad' L'.length cap')) := (Fr.refl [px] W).setCell (p := ⟨px, 1, none⟩) (.inl (by simp)) _
  refine ⟨h.st.set 1 _, h.t.fr f ?_, hr.fr f (fun k hk e => ?_), h.px, h.gt, hl⟩
  · obtain ⟨cur, hb, _⟩ := h.t
    intro hm
    simp at hm
    exact hb.ne_ h.st (by decide) hm
  · simp at hk
    subst hk
    obtain ⟨_, ⟨e2, _⟩ | ⟨g, cap', cur, e2, _, hb, _⟩⟩ := hr
    · rw [e2] at e
      cases e
    · injection e2 with e2 _ e3
      rw [e2] at e
      have e4 : g = k := by simpa [Value.ownBlock] using e
      subst e4
      exact Blk.ne_ (w := W) hb h.st (by decide) rfl
/-- One block more: the run. -/
theorem app_runB {v : Value} (hr : Rk w base v L) (y : RB) (hl : L.length ≤ 1000000) (hb : base ≤ w.heap.size) :
    ∃ v' w', (Builtin.append_ #[47, 47] 47 #[v, .slice (some ⟨w.heap.size, 0, none⟩) 1 1]).run Tryz.prog (w.alloc (.cells y.cells 33)).drew = .ok v' w' ∧ Rk w' base v' (L ++ [y]) ∧ Fr (ownS v) w w' := by
  have f0 : Fr [] w (w.alloc (.cells y.cells 33)).drew := ((Fr.refl [] w).alloc _).drew
  obtain ⟨v', w', h1, h2, h3, _⟩ := run_appK (w.alloc (.cells y.cells 33)).drew base v L (hr.fr0 f0) (some ⟨w.heap.size, 0, none⟩) 1 [y] (fun _ => ⟨_, 0, rfl, fun j hj i hi => by
    obtain rfl : j = 0 := by simp at hj; omega
    rw [Nat.zero_mul, Nat.zero_add, Nat.zero_add, (Blk.new w 33 y.cells).drew.cell]
    show (rbC _ _ _ _ _ _)[i]? = y.cl[i]?
    rw [rbC, List.getElem?_toArray]
    rfl⟩) (by simp; omega) (Nat.le_trans hb f0.size)
  refine ⟨v', w', h1, h2, (f0.nil (S := ownS v)).trans ⟨h3.os, h3.tape, h3.output, h3.size, fun k hk hn => h3.block k hk (fun e => hn ?_)⟩⟩
  unfold ownS
  rw [← e]
  simp
/-- It is appended to the document's blocks. -/
theorem PN.app (c0 : PC w0 q base) (h : PN w0 q px base L n ad cap W) {w1 : World} {ad' : Option Addr} {cap' : Nat} (hr : Rk w1 base (.slice ad' (L ++ [n]).length cap') (L ++ [n])) (hf : Fr (ownS (.slice ad L.length cap)) W w1) (hl : L.length < 1000000) :
    PT w0 q px base (L ++ [n]) n (w1.setCell ⟨px, 1, none⟩ (.slice ad' (L ++ [n]).length cap')) ∧ w1.frozen? ⟨px, 1, none⟩ = false ∧ w1.cell? ⟨px, 1, none⟩ = some (.slice ad L.length cap) := by
  obtain ⟨S, Ls, u, E, B, gt, ct, x, g, k, r1, r2, r3⟩ := h
  have hown : ∀ z, z ∈ ownS (.slice ad L.length cap) → base ≤ z ∧ Blk W z 33 ((W.heap[z]?.map fun o => match o with | .cells c _ _ => c | _ => #[]).getD #[]) := fun z hz => by
    have e := ownS_mem hz
    refine ⟨(k.b.lt z e).1, ?_⟩
    obtain ⟨_, ⟨e2, _⟩ | ⟨g', cap', cur, e2, _, hb, _⟩⟩ := k.b
    · rw [e2] at e; cases e
    · rw [e2] at e
      have e4 : g' = z := by simpa [Value.ownBlock] using e
      subst e4
      unfold Blk
      rw [hb]
      rfl
  have h1 : px ∉ ownS (.slice ad L.length cap) := fun hm => (hown px hm).2.ne_ k.st (by decide) rfl
  have h2 : gt ∉ ownS (.slice ad L.length cap) := fun hm => by
    obtain ⟨cur, hb, _⟩ := k.t
    exact (hown gt hm).2.ne_ hb (by decide) rfl
  have st1 := k.st.fr hf h1
  have f : Fr [px] w1 (w1.setCell ⟨px, 1, none⟩ (.slice ad' (L ++ [n]).length cap')) := (Fr.refl [px] w1).setCell (p := ⟨px, 1, none⟩) (.inl (by simp)) _
  have g1 : GI w0 q S Ls u E B w1 := g.frL hf (fun z hz => by
    have := (hown z hz).1
    have := c0.gx
    have := c0.w
    exact ⟨fun hm => by have := c0.q z hm; omega, by omega, by omega⟩)
  refine ⟨⟨S, Ls, u, E, B, gt, ct, ad', cap', x, c0.own g1 k.px f, ⟨st1.set 1 _, (k.t.fr hf h2).fr f ?_, hr.fr f (fun z hz e => ?_), k.px, k.gt, by rw [List.length_append]; simp; omega⟩, r1, List.mem_append_right _ (List.mem_singleton.2 rfl), r2, r3⟩, st1.frozen 1, by simpa using st1.cell 1⟩
  · obtain ⟨cur, hb, _⟩ := k.t
    intro hm
    simp at hm
    exact hb.ne_ k.st (by decide) hm
  · simp at hz
    subst hz
    obtain ⟨_, ⟨e2, _⟩ | ⟨g', cap2, cur, e2, _, hb, _⟩⟩ := hr
    · rw [e2] at e
      cases e
    · injection e2 with e2 _ e3
      rw [e2] at e
      have e4 : g' = z := by simpa [Value.ownBlock] using e
      subst e4
      exact Blk.ne_ (w := w1) hb st1 (by decide) rfl
theorem ps_blk (c0 : PC w0 q base) (h : PSA w0 q px base L ad cap W) (ba : Int) (bn : Bool) (bm bt : Nat) (bl : List Nat) (bh : Nat) (hb : RB.Ok ⟨ba, bn, bm, bt, bl, bh⟩) (hf : RB.few ⟨ba, bn, bm, bt, bl, bh⟩ = true) :
    Calls Tryz.prog 29 #[.pointer (some ⟨q.m, 0, none⟩), .agg #[.int .i64 ba, .bool bn, .int .u32 bm, .int .u16 bt, .string (strOf bl), .int .u32 bh]] W fun e w' => ∃ x : Nat, e = .returned (.agg #[.int .i64 x, .bool bn, .int .u32 bm, .int .u16 bt, .string (strOf bl), .int .u32 bh]) ∧ Fr q.blocks W w' ∧ x < 1048576 ∧ ((x = 0 ∧ PSA w0 q px base L ad cap w') ∨ (0 < x ∧ PN w0 q px base L ⟨x, bn, bm, bt, bl, bh⟩ ad cap w')) := by
  obtain ⟨S, Ls, u, E, B, gt, ct, g, hX, k⟩ := h
  refine (ix_blk g _ hb hf).mono fun e w' ⟨x, he, hfr, hP⟩ => ⟨x, he, hfr, ?_⟩
  have hX' := hX.fr hfr c0.q
  rcases hP with ⟨h0, _, v, gv, ev⟩ | ⟨_, hx, h0, h1, hn, v, gv, ev⟩
  · refine ⟨by omega, .inl ⟨h0, S, Ls, v, E, B, gt, ct, gv, hX'.congr (fun s _ => ?_), k⟩⟩
    rw [ev]
    unfold hmE
    rw [gv.s, g.s]
  · have hnL : ¬ Ls x := fun hl => hn (g.lv x hl)
    have hnT : ¬ InT 224 u.sl x := fun ⟨s, hs, e⟩ => by
      rcases g.ix.sl s (by rw [g.s]; exact hs) with e0 | hl
      · omega
      · rw [e] at hl
        exact hnL hl
    refine ⟨h1, .inr ⟨h0, _, _, v, _, _, gt, ct, x, gv, hX'.congr (fun s hs => ?_), ⟨fun c hc => ?_, fun y hy => ?_, ?_⟩, rfl, by rw [ev]; exact hnT⟩⟩
    · rw [ev]
      by_cases e0 : u.sl s = 0
      · rw [cT_no e0, cT_no e0]
      · rw [cT_is e0, cT_is e0]
        have hne : u.sl s ≠ x := fun e => hnT ⟨s, hs, e⟩
        unfold hmE
        rw [up_ne _ _ hne, gv.s, g.s]
    · rcases List.mem_append.1 hc with hc | hc
      · obtain ⟨y, ky⟩ := k.i c hc
        exact ⟨y, ky.old hnL⟩
      · obtain rfl := List.mem_singleton.1 hc
        exact ⟨x, ⟨rfl, .inl rfl, up_same _ _ _, up_same _ _ _, ⟨by show (-9223372036854775808 : Int) ≤ (x : Int) ∧ (x : Int) ≤ 9223372036854775807; omega, hb.nm, hb.ty, hb.lab, hb.len, hb.hs⟩, hf⟩⟩
    · rcases hy with rfl | hy
      · exact ⟨_, List.mem_append_right _ (List.mem_singleton.2 rfl), rfl⟩
      · obtain ⟨c, hc, e⟩ := k.a y hy
        exact ⟨c, List.mem_append_left _ hc, e⟩
    · rw [List.map_append]
      refine List.nodup_append.2 ⟨k.nd, by simp, fun a ha d hd e => ?_⟩
      obtain ⟨c, hc, rfl⟩ := List.mem_map.1 ha
      simp at hd
      obtain ⟨z, kz⟩ := k.i c hc
      have : (z : Int) = x := by rw [← kz.at_, e, hd]
      exact hnL ((Int.ofNat.inj this) ▸ kz.l)
theorem ps_mov (c0 : PC w0 q base) (h : PT w0 q px base L n W) (hb : b ∈ L) (hh : b.hs = n.hs) (x y : Nat) (hx : b.at_ = x) (hy : n.at_ = y) : Calls Tryz.prog 28 #[.pointer (some ⟨q.m, 0, none⟩), .int .i64 x, .int .i64 y] W fun e w' => ∃ c : Nat, e = .returned (.int .i64 c) ∧ Fr q.blocks W w' ∧
    ∀ V, Fr [] w' V → Calls Tryz.prog 109 #[.pointer (some ⟨px, 0, none⟩), .int .i64 x, .int .i64 y] V fun e w2 => e = .returned (.int .i64 c) ∧ Fr [px] V w2 ∧ (c ≠ 0 → PS w0 q px base L w2) ∧ (c = 0 → PT w0 q px base L b w2) := by
  obtain ⟨S, Ls, u, E, B, gt, ct, ad, cap, y', g, hX, k, hn, hy', hnt⟩ := h
  obtain rfl : y' = y := Int.ofNat.inj (hy'.symm.trans hy)
  obtain ⟨x', kb⟩ := k.i b hb
  obtain rfl : x' = x := Int.ofNat.inj (kb.at_.symm.trans hx)
  obtain ⟨y2, kn⟩ := k.i n hn
  obtain rfl : y2 = y' := Int.ofNat.inj (kn.at_.symm.trans hy)
  obtain ⟨p, a, ka⟩ := k.at_ g kb.l
  obtain ⟨p2, a2, ka2⟩ := k.at_ g kn.l
  have hhash : (E x').hash = (E y2).hash := by
    rw [kb.e, kn.e, hh]
    unfold rbX
    split <;> split <;> rfl
  have hhs2 : (L[p]'a.lt).hs = (L[p2]'a2.lt).hs := by
    have e1 := (ka a.lt).e
    have e2 := (ka2 a2.lt).e
    have h1 : (E x').hash = (L[p]'a.lt).hs := by rw [e1]; unfold rbX; split <;> rfl
    have h2 : (E y2).hash = (L[p2]'a2.lt).hs := by rw [e2]; unfold rbX; split <;> rfl
    rw [← h1, ← h2, hhash]
  have hpx := hX.px
  refine (g_mov g kb.l kn.l hhash hnt _ rfl).mono fun e w' ⟨hf, hm⟩ => ?_
  have hX' := hX.fr hf c0.q
  have hbs : ∀ V, Fr [] w' V → base ≤ V.heap.size := fun V hV => by
    have := hX'.st.lt
    have := hV.size
    omega
  have hmv := fun V (hV : Fr [] w' V) => x20_move (hX'.fr0 hV) g.rh a a2 hhs2 _ rfl (hbs V hV)
  have hfd := (g.rh.found (g.ne0 kb.l).1).1
  cases hR : fndT u.sl (hmE u E) 224 (hmE u E x') (fun z => z == x') with
  | none =>
    rw [hR] at hm hmv
    refine ⟨7, hm.1, hf, fun V hV => (hmv V hV).mono fun e w2 ⟨hf2, h1, h2⟩ => ⟨h1, hf2, fun _ => ?_, fun e => absurd e (by decide)⟩⟩
    exact ⟨S, Ls, u, E, B, gt, ct, ad, cap, c0.own (hm.2.fr0 hV) hpx hf2, h2, k⟩
  | some i =>
    obtain ⟨hi, hti⟩ := hfd i hR
    rw [hR] at hm hmv
    refine ⟨0, hm.1, hf, fun V hV => (hmv V hV).mono fun e w2 ⟨hf2, h1, g', c', h2⟩ => ⟨h1, hf2, fun e => absurd rfl e, fun _ => ?_⟩⟩
    refine ⟨S, Ls, _, E, B, g', c', ad, cap, x', c0.own (hm.2.fr0 hV) hpx hf2, h2, k, hb, hx, fun ⟨s, hs, e⟩ => ?_⟩
    have e : up u.sl i y2 s = x' := e
    by_cases es : s = i
    · subst es
      rw [up_same] at e
      exact hnt ⟨s, hs, by rw [hti, e]⟩
    · rw [up_ne _ _ es] at e
      exact es (g.rh.nd s i hs hi (by rw [e]; exact (g.ne0 kb.l).1) (e.trans hti.symm))
theorem ps_give (c0 : PC w0 q base) (h : PG w0 q px base L n W) (x : Nat) (hx : n.at_ = x) : Calls Tryz.prog 55 #[.pointer (some ⟨q.m, 0, none⟩), .int .i64 x] W fun e w' => e = .returned (.int .i64 0) ∧ Fr q.blocks W w' ∧ PS w0 q px base (L.filter (fun c => c.at_ != n.at_)) w' := by
  obtain ⟨S, Ls, u, E, B, gt, ct, ad, cap, y', g, hX, k, hn, hy', hnt⟩ := h
  obtain rfl : y' = x := Int.ofNat.inj (hy'.symm.trans hx)
  obtain ⟨y2, kn⟩ := k.i n hn
  obtain rfl : y2 = y' := Int.ofNat.inj (kn.at_.symm.trans hx)
  refine (g_give g kn.l hnt).mono fun e w' ⟨he, hf, S', v, g', ev⟩ => ⟨he, hf, S', _, v, E, B, gt, ct, ad, cap, g', (hX.fr hf c0.q).congr (fun s _ => ?_), ⟨fun c hc => ?_, fun z hz => ?_, ?_⟩⟩
  · rw [ev]
    unfold hmE
    rw [g'.s, g.s]
  · obtain ⟨hc1, hc2⟩ := List.mem_filter.1 hc
    obtain ⟨z, kz⟩ := k.i c hc1
    refine ⟨z, ⟨kz.at_, ⟨kz.l, fun e => ?_⟩, kz.e, kz.lb, kz.ok, kz.fw⟩⟩
    rw [e] at kz
    rw [kz.at_, hx] at hc2
    simp at hc2
  · obtain ⟨c, hc, e⟩ := k.a z hz.1
    refine ⟨c, List.mem_filter.2 ⟨hc, ?_⟩, e⟩
    rw [e, hx, bne_iff_ne]
    intro e2
    exact hz.2 (Int.ofNat.inj e2)
  · exact List.Sublist.nodup (List.Sublist.map _ List.filter_sublist) k.nd
end
end Go.Proofs.YtmemoopkgjgmiaaGreatDoor

/- IndexPlays: law20.moved. -/
namespace Go.Proofs.YtmemoopkgjgmiaaGreatDoor
set_option linter.unusedVariables false
set_option linter.unusedSimpArgs false
open Go.RowKit

section
variable {w0 W W' w : World} {q : MH} {x y p : Nat} {px base cap : Nat} {L : List RB} {ad : Option Addr} {b n : RB}
theorem PT.row (h : PT w0 q px base L n W) : ∃ ad cap, Rk W base (.slice ad L.length cap) L ∧ W.cell? ⟨px, 1, none⟩ = some (.slice ad L.length cap) ∧ base ≤ px ∧ px < W.heap.size ∧ W.frozen? ⟨px, 1, none⟩ = false := by
  obtain ⟨S, Ls, u, E, B, gt, ct, ad, cap, x, g, k, r⟩ := h
  exact ⟨ad, cap, k.b, k.c1, k.px, k.st.lt, k.st.frozen 1⟩
theorem PT.drop (c0 : PC w0 q base) (h : PT w0 q px base L n W) {ad' : Option Addr} {cap' : Nat} {L2 : List RB} (e : L2 = L.filter (fun c => c.at_ != n.at_)) (hr : Rk W base (.slice ad' L2.length cap') L2) : PG w0 q px base L n (W.setCell ⟨px, 1, none⟩ (.slice ad' L2.length cap')) := by
  subst e
  obtain ⟨S, Ls, u, E, B, gt, ct, ad, cap, x, g, k, r⟩ := h
  have f : Fr [px] W (W.setCell ⟨px, 1, none⟩ (.slice ad' (L.filter (fun c => c.at_ != n.at_)).length cap')) := (Fr.refl [px] W).setCell (p := ⟨px, 1, none⟩) (.inl (by simp)) _
  exact ⟨S, Ls, u, E, B, gt, ct, ad', cap', x, c0.own g k.px f, k.setB hr (Nat.le_trans (List.length_filter_le _ _) k.len), r⟩
theorem filter_take {L : List RB} {i : Nat} (h : i < L.length) (f : RB → Bool) : (L.take (i + 1)).filter f = (L.take i).filter f ++ (if f L[i] then [L[i]] else []) := by
  rw [List.take_succ_eq_append_getElem h, List.filter_append]
  congr 1
  rw [List.filter_cons]
  split <;> rfl
set_option maxRecDepth 100000 in
set_option maxHeartbeats 2000000 in
theorem w_moved (c0 : PC w0 q base) (h : PS w0 q px base L W) (hb : b ∈ L) (hlen : L.length ≤ 1000) : Calls Tryz.prog 24 #[.pointer (some ⟨q.m, 0, none⟩), .pointer (some ⟨px, 0, none⟩), .agg #[.int .i64 b.at_, .bool b.nd, .int .u32 b.nm, .int .u16 b.ty, .string (strOf b.lab), .int .u32 b.hs]] W fun e w' => e = .returned (.bool true) ∧ ∃ L', L'.length ≤ L.length + 1 ∧ PS w0 q px base L' w' := by
  have C0 := Lib.hid c0
  obtain ⟨x0, hx0, hok, hfw⟩ : ∃ x0 : Nat, b.at_ = x0 ∧ b.Ok ∧ b.few = true := by
    obtain ⟨S, Ls, u, E, B, gt, ct, ad, cap, g, hX, k⟩ := h
    obtain ⟨x, kx⟩ := k.i b hb
    exact ⟨x, kx.at_, kx.ok, kx.fw⟩
  obtain ⟨ad, cap, hA⟩ := h.psa
  obtain ⟨hrow, hc1, hpx, hpxl⟩ := hA.row
  obtain ⟨ba, bd, bm, bt, bl, bh⟩ := b
  simp only at hx0 ⊢
  subst hx0
  have HBM := Lib.hid hb
  have f0 := (Fr.refl [] W).alloc (.cells #[.int .i64 x0, .bool bd, .int .u32 bm, .int .u16 bt, .string (strOf bl), .int .u32 bh] 33)
  have hblk := ps_blk c0 (hA.fr0 f0) x0 bd bm bt bl bh hok hfw
  have B0 := Lib.hid (Blk.new W 33 #[.int .i64 x0, .bool bd, .int .u32 bm, .int .u16 bt, .string (strOf bl), .int .u32 bh])
  have HQ := Lib.hid c0.q
  have hwb : base ≤ W.heap.size := by omega
  have hnq : W.heap.size ∉ q.blocks := fun hm => by have := c0.q _ hm; omega
  have HOL := Lib.hid (show ∀ k ∈ ownS (.slice ad L.length cap), k < W.heap.size from fun k hk => (hrow.lt k (ownS_mem hk)).2)
  have HZ0 := Lib.hid f0.size
  clear c0 h hA hrow hc1 hb hok hfw f0
  go_enter Tryz.func24, Tryz.ntmps24
  go_wp2_with fail
  with_reducible refine hblk.mono ?_
  rintro e w1 ⟨x, rfl, f1, hxm, hc⟩
  have B1 := Lib.hid (B0.out.fr f1 hnq)
  have hs1 : W.heap.size < w1.heap.size := B1.out.lt
  have f2 := (Fr.refl [] w1).alloc (.cells #[.int .i64 x, .bool bd, .int .u32 bm, .int .u16 bt, .string (strOf bl), .int .u32 bh] 33)
  have B2 := Lib.hid (B1.out.fr f2 (by simp))
  have N2 := Lib.hid (Blk.new w1 33 #[.int .i64 x, .bool bd, .int .u32 bm, .int .u16 bt, .string (strOf bl), .int .u32 bh])
  clear hblk f1 B0 B1
  rcases hc with ⟨rfl, h1⟩ | ⟨hx, h1⟩
  · have b1 : (((0 : Nat) : Int) == 0) = true := rfl
    have H1 := Lib.hid (h1.fr0 f2).ps
    clear h1 f2
    go_wp2_with fail
    go_ret
    exact ⟨rfl, L, by omega, H1.out⟩
  · have b1 : ((x : Int) == 0) = false := by rw [beq_eq_false_iff_ne]; omega
    have b1' : (x == 0) = false := by rw [beq_eq_false_iff_ne]; omega
    have H2 := Lib.hid (h1.fr0 f2)
    have hnl : w1.heap.size < (w1.alloc (.cells #[.int .i64 x, .bool bd, .int .u32 bm, .int .u16 bt, .string (strOf bl), .int .u32 bh] 33)).heap.size := N2.out.lt
    have hw1b : base ≤ (w1.alloc (.cells #[.int .i64 x, .bool bd, .int .u32 bm, .int .u16 bt, .string (strOf bl), .int .u32 bh] 33)).heap.size := by omega
    clear h1 f2
    go_wp2_with fail
    generalize hgn : w1.heap.size = gn at *
    generalize hgb : W.heap.size = gb at *
    generalize w1.alloc (.cells #[.int .i64 x, .bool bd, .int .u32 bm, .int .u16 bt, .string (strOf bl), .int .u32 bh] 33) = w2 at *
    obtain ⟨hrow2, hc2, _, _, _⟩ := H2.out.row
    obtain ⟨v3, w3, hrun, hr3, hf3⟩ := app_runB hrow2 ⟨x, bd, bm, bt, bl, bh⟩ (by omega) hw1b
    obtain ⟨ad3, cap3, ev3, _⟩ := hr3.row
    subst ev3
    obtain ⟨hPT, hzf, hzc⟩ := H2.out.app C0.out hr3 hf3 (by omega)
    have hle : (L ++ [(⟨x, bd, bm, bt, bl, bh⟩ : RB)]).length = L.length + 1 := by simp
    have HRUN := Lib.hid hrun
    rw [hle] at hPT
    have PT3 := Lib.hid hPT
    have F34 := Lib.hid (show Fr [px] w3 (w3.setCell ⟨px, 1, none⟩ (.slice ad3 (L.length + 1) cap3)) from (Fr.refl [px] w3).setCell (p := ⟨px, 1, none⟩) (.inl (by simp)) _)
    have hgn3 : gn ∉ ownS (.slice ad L.length cap) := fun hm => by have := HOL.out _ hm; omega
    have hgb3 : gb ∉ ownS (.slice ad L.length cap) := fun hm => by have := HOL.out _ hm; omega
    have B3 := Lib.hid (B2.out.fr hf3 hgb3)
    have N3 := Lib.hid (N2.out.fr hf3 hgn3)
    have hs3 : w2.heap.size ≤ w3.heap.size := hf3.size
    have m0 := N2.out.cell 0
    have m1 := N2.out.cell 1
    have m2 := N2.out.cell 2
    have m3 := N2.out.cell 3
    have m4 := N2.out.cell 4
    have m5 := N2.out.cell 5
    simp only [List.getElem?_toArray, List.getElem?_cons_zero, List.getElem?_cons_succ] at m0 m1 m2 m3 m4 m5
    have hc2a := (H2.out.fr0 ((Fr.refl [] w2).alloc (.cells #[.int .i64 x, .bool bd, .int .u32 bm, .int .u16 bt, .string (strOf bl), .int .u32 bh] 33))).row.2.1
    clear hrun hr3 hf3 hPT hrow2 hgn3 hgb3 HOL HZ0 HQ hnl H2 B2 N2
    apply cutG
    · intro key
      go_region_law (refine step_app rfl (.tmp 21) (.tmp 23) 47 rfl rfl _ _ _ _ (by simp [Act.eval, Act.put]) (by simp [Act.eval, Act.put]) HRUN.out ?_)
      all_goals exact key
    · clear m0 m1 m2 m3 m4 m5 hc2 hc2a HRUN hzf hzc
      have B4 := Lib.hid (B3.out.fr F34.out (by simp; omega))
      have N4 := Lib.hid (N3.out.fr F34.out (by simp; omega))
      have hbm1 := List.mem_append_left [(⟨x, bd, bm, bt, bl, bh⟩ : RB)] HBM.out
      generalize hL1 : L ++ [(⟨x, bd, bm, bt, bl, bh⟩ : RB)] = L1 at *
      have HL1 := Lib.hid hle
      generalize w3.setCell ⟨px, 1, none⟩ (.slice ad3 (L.length + 1) cap3) = w4 at *
      have hmv := ps_mov C0.out PT3.out hbm1 rfl x0 x rfl rfl
      have HBM1 := Lib.hid hbm1
      have d0 := B4.out.cell 0
      have d1 := N4.out.cell 0
      simp only [List.getElem?_toArray, List.getElem?_cons_zero] at d0 d1
      have hgnq : gn ∉ q.blocks := fun hm => by have := C0.out.q _ hm; omega
      clear hle hL1 hbm1 HBM PT3 F34 B3 N3
      go_wp2_with fail
      with_reducible refine hmv.mono ?_
      rintro e w5 ⟨c, rfl, f5, hx5⟩
      have B5 := Lib.hid (B4.out.fr f5 hnq)
      have N5 := Lib.hid (N4.out.fr f5 hgnq)
      have hxm := hx5 w5 (Fr.refl _ _)
      have d0 := B5.out.cell 0
      have d1 := N5.out.cell 0
      simp only [List.getElem?_toArray, List.getElem?_cons_zero] at d0 d1
      clear hmv hx5 f5 B4 N4
      go_wp2_with fail
      with_reducible refine hxm.mono ?_
      rintro e w6 ⟨rfl, f6, h60, h61⟩
      have B6 := Lib.hid (B5.out.fr f6 (by simp; omega))
      have bc : ((c : Int) != c) = false := by simp
      clear hxm f6 B5 N5 d0 d1
      by_cases hc0 : c = 0
      · subst hc0
        have P6 := Lib.hid (h61 rfl)
        have b2 : (((0 : Nat) : Int) != 0) = false := rfl
        clear h60 h61
        obtain ⟨ad6, cap6, hrow6, hc6, _, hpx6, hzf6⟩ := P6.out.row
        have HR6 := Lib.hid hrow6
        have hb6 : gb < w6.heap.size := B6.out.lt
        have hbase6 : base ≤ w6.heap.size := by omega
        have hl1 := HL1.out
        have HCC := Lib.hid (fun V (hV : Fr [] w6 V) => (show V.cell? ⟨px, 1, none⟩ = some (.slice ad6 L1.length cap6) ∧ V.cell? ⟨gb, 0, none⟩ = some (.int .i64 x0) ∧ V.frozen? ⟨px, 1, none⟩ = false ∧ ∀ k (hk : k < L1.length), ∃ g, ad6 = some ⟨g, 0, none⟩ ∧ L1.length ≤ cap6 ∧ V.cell? ⟨g, k * 6, none⟩ = some (.int .i64 L1[k].at_) ∧ V.cell? ⟨g, k * 6 + 1, none⟩ = some (.bool L1[k].nd) ∧ V.cell? ⟨g, k * 6 + 2, none⟩ = some (.int .u32 L1[k].nm) ∧ V.cell? ⟨g, k * 6 + 3, none⟩ = some (.int .u16 L1[k].ty) ∧ V.cell? ⟨g, k * 6 + 4, none⟩ = some (.string (strOf L1[k].lab)) ∧ V.cell? ⟨g, k * 6 + 5, none⟩ = some (.int .u32 L1[k].hs) from by
          obtain ⟨S, Ls, u, E, B, gt, ct, ad7, cap7, z, g, kX, r⟩ := P6.out.fr0 hV
          refine ⟨(hV.cell (p := ⟨px, 1, none⟩) hpx6 (by simp)).trans hc6, (B6.out.fr hV (by simp)).cell 0, kX.st.frozen 1, fun k hk => ?_⟩
          obtain ⟨ad8, cap8, e8, hr8⟩ := hrow6.row
          injection e8 with e8 _ e9
          subst e8 e9
          obtain ⟨g8, eg, _, hr⟩ := hr8 (by omega)
          have hr' := hr.fr hV (by simp)
          exact ⟨g8, eg, hr.le, hr'.cell k hk 0 (by decide), hr'.cell k hk 1 (by decide), hr'.cell k hk 2 (by decide), hr'.cell k hk 3 (by decide), hr'.cell k hk 4 (by decide), hr'.cell k hk 5 (by decide)⟩))
        clear hrow6 hc6
        go_wp2_with fail
        go_loopw [9, 10] (fun v i W => ∃ (k : Nat) (vv : Value), vv = v ∧ k ≤ L1.length ∧ i = .int .i64 k ∧ Fr [] w6 W ∧ Rk W w6.heap.size vv ((L1.take k).filter (fun c => c.at_ != (x0 : Int)))) (fun _ i _ => L1.length - (intOf i).toNat)
        case atStart => exact ⟨0, _, rfl, by omega, rfl, Fr.refl _ _, Rk.nil _ _⟩
        case round =>
          obtain ⟨k, vv, rfl, hk, rfl, hF, hR⟩ := hrel
          have F7 := Lib.hid hF
          have R7 := Lib.hid hR
          obtain ⟨c1, c2, c3, hel⟩ := HCC.out _ hF
          have n1 : (0 : Int) ≤ k := by omega
          have wk : IntKind.i64.wrap ((k : Int) + 1) = (k : Int) + 1 := IntWalk.i64_in _ (by omega)
          by_cases hlt : k < L1.length
          · have b1 : decide ((k : Int) < L1.length) = true := decide_eq_true (by omega)
            have b1' : decide (k < L1.length) = true := decide_eq_true hlt
            have n2 : (k : Int) < L1.length := by omega
            obtain ⟨g8, rfl, hcap8, e0, e1, e2, e3, e4, e5⟩ := hel k hlt
            have hft := filter_take hlt (fun c => c.at_ != (x0 : Int))
            have hlf : ((L1.take k).filter (fun c => c.at_ != (x0 : Int))).length ≤ 1000000 := Nat.le_trans (List.length_filter_le _ _) (by rw [List.length_take]; omega)
            generalize hLk : L1[k] = el at *
            obtain ⟨ea, ed, em, et, eb, eh⟩ := el
            simp only at e0 e1 e2 e3 e4 e5 hft
            by_cases hea : ea = x0
            · have b3 : (ea != (x0 : Int)) = false := by rw [hea]; simp
              rw [b3, if_neg (by simp), List.append_nil] at hft
              have R8 := Lib.hid (show Rk _ w6.heap.size vv ((L1.take (k + 1)).filter (fun c => c.at_ != (x0 : Int))) from by rw [hft]; exact R7.out)
              clear hF hR hft hel R7
              go_wp2_with fail
              go_quiet (fail)
              go_wp2_with fail
              go_roundw
              case rel => exact ⟨k + 1, _, rfl, by omega, by go_num, F7.out.drewN _, R8.out.fr0 ((Fr.refl _ _).drewN _)⟩
              case measure => simp [intOf]; omega
            · have b3 : (ea != (x0 : Int)) = true := by rw [bne_iff_ne]; exact hea
              rw [b3, if_pos rfl] at hft
              have HFT := Lib.hid hft
              clear hF hR hft hel
              go_wp2_with fail
              go_quiet (fail)
              have R8 := Lib.hid (R7.out.fr0 ((Fr.refl [] wr).drewN nq))
              have F8 := Lib.hid (F7.out.drewN nq)
              have hs8 : w6.heap.size ≤ (wr.drewN nq).heap.size := F8.out.size
              go_wp2_with (first | (at_builtin; refine wpList_appK rfl _ _ rfl rfl w6.heap.size _ _ rfl ⟨ea, ed, em, et, eb, eh⟩ (wr.drewN nq) rfl R8.out rfl hlf hs8 ?_; intro g9 q9 W9 hO9 hF9 hob9) | fail)
              have F9 := Lib.hid (show Fr [] w6 W9 from F8.out.step hF9 (fun z hz => .inr (R8.out.lt z (ownS_mem hz)).1))
              have R9 := Lib.hid hO9
              clear hO9 hF9 hob9
              go_roundw
              case rel => exact ⟨k + 1, _, rfl, by omega, by go_num, F9.out, by rw [HFT.out]; exact R9.out⟩
              case measure => simp [intOf]; omega
          · have b1 : decide ((k : Int) < L1.length) = false := decide_eq_false (by omega)
            have b1' : decide (k < L1.length) = false := decide_eq_false hlt
            have ek : k = L1.length := by omega
            have hR2 : Rk wr w6.heap.size vv (L1.filter (fun c => c.at_ != (x0 : Int))) := by
              rw [ek, List.take_length] at hR
              exact hR
            obtain ⟨ad9, cap9, ev9, _⟩ := hR2.row
            subst ev9
            have PD := Lib.hid (PT.drop C0.out (P6.out.fr0 hF) (n := ⟨x0, bd, bm, bt, bl, bh⟩) rfl (hR2.lo hbase6))
            have hlf : (L1.filter (fun c => c.at_ != (x0 : Int))).length ≤ L1.length := List.length_filter_le _ _
            have HLF := Lib.hid (show (L1.filter (fun c => c.at_ != (x0 : Int))).length ≤ L.length + 1 from by rw [← HL1.out]; exact hlf)
            have B7 := Lib.hid (B6.out.fr hF (by simp))
            have B8 := (B7.out.fr ((Fr.refl [px] wr).setCell (p := ⟨px, 1, none⟩) (.inl (by simp)) (.slice ad9 (L1.filter (fun c => c.at_ != (x0 : Int))).length cap9)) (by simp; omega)).cell 0
            simp only [List.getElem?_toArray, List.getElem?_cons_zero] at B8
            have hgv := ps_give C0.out PD.out x0 rfl
            clear hF hR hR2 hel hlf PD ek
            have HGV := Lib.hid hgv
            clear hgv
            generalize hL2 : L1.filter (fun c => c.at_ != (x0 : Int)) = L2 at *
            have hgv := HGV.out
            go_wp2_with fail
            with_reducible refine hgv.mono ?_
            rintro e w9 ⟨rfl, f9, h9⟩
            have H9 := Lib.hid h9
            clear hgv h9 f9
            go_wp2_with fail
            go_ret
            exact ⟨rfl, _, HLF.out, H9.out⟩
      · have b2 : ((c : Int) != 0) = true := by rw [bne_iff_ne]; omega
        have b2' : (c != 0) = true := by rw [bne_iff_ne]; exact hc0
        have P6 := Lib.hid (h60 hc0)
        clear h60 h61 hc0
        go_wp2_with fail
        go_ret
        exact ⟨rfl, L1, by rw [HL1.out]; exact Nat.le_refl _, P6.out⟩
end
end Go.Proofs.YtmemoopkgjgmiaaGreatDoor
