/- head.Encode. -/
import Derived.Test.YtcagljjbiodcoaaDoorHBlk
namespace Go.Proofs.YtcagljjbiodcoaaDoor
set_option linter.unusedVariables false
open Go.RowKit

theorem szZ_le (t : Int) : szZ t ≤ 32 := by
  unfold szZ
  split
  · generalize t.toNat = k
    rcases k with _ | _ | _ | k <;> simp [sz]
  · omega
/-- A field lies within the head of its block. -/
theorem wh_in (tag f : Int) : (whZ tag f).2 ≤ 8 ∧ ((whZ tag f).2 = 0 ∨ (whZ tag f).1 + (whZ tag f).2 ≤ szZ tag) := by
  unfold whZ szZ
  by_cases h : 0 ≤ tag ∧ tag ≤ 2 ∧ 0 ≤ f ∧ f ≤ 11
  · rw [if_pos h, if_pos (by omega)]
    obtain ⟨t, rfl⟩ : ∃ t : Nat, tag = t := ⟨tag.toNat, by omega⟩
    obtain ⟨k, rfl⟩ : ∃ k : Nat, f = k := ⟨f.toNat, by omega⟩
    rw [Int.toNat_natCast, Int.toNat_natCast]
    rcases t with _ | _ | _ | t <;> try omega
    all_goals (rcases k with _ | _ | _ | _ | _ | _ | _ | _ | _ | _ | _ | _ | k <;> first | omega | decide)
  · rw [if_neg h]; simp

/-- What Encode answers: no bytes for a head that may not be. -/
def EncP (x : HB) (w : World) (e : Ending) (w' : World) : Prop :=
  ∃ g : Nat, e = .returned (.tuple #[.slice (some ⟨g, 0, none⟩) (szZ x.tag) (szZ x.tag), .int .i64 0]) ∧ Blk w' g 5 (bytes x.enc) ∧ w.heap.size ≤ g ∧ Fr [] w w'

theorem u8_div (n j : Nat) : IntKind.u8.wrap ((n : Int) / 2 ^ (8 * j)) = ((n / 256 ^ j % 256 : Nat) : Int) := by
  have : IntKind.u8.wrap ((n : Int) / 2 ^ (8 * j)) = ((n : Int) / 2 ^ (8 * j)) % 256 := rfl
  rw [this, show (256 : Nat) ^ j = 2 ^ (8 * j) by rw [Nat.pow_mul]]
  rw [Int.natCast_emod, Int.natCast_ediv, Int.natCast_pow]
  rfl

theorem nums_w64 (x : HB) (hx : x.Ok) (k : Nat) : x.num k < 18446744073709551616 := by
  obtain ⟨h1, h2, h3, h4, h5, h6, h7, h8, h9, h10, h11⟩ := hx
  have hw : ∀ z : Int, w64 z < 18446744073709551616 := fun z => by unfold w64; omega
  unfold HB.num HB.nums
  rcases k with _ | _ | _ | _ | _ | _ | _ | _ | _ | _ | _ | _ | k
  all_goals simp only [List.getElem?_cons_zero, List.getElem?_cons_succ, List.getElem?_nil, Option.getD_some, Option.getD_none]
  all_goals first | exact hw _ | omega | (split <;> omega)

theorem encode_no (w : World) (hT : Tabs w) (x : HB) (hx : x.Ok) (hr : x.right = false) :
    Calls Tryd.prog 63 #[x.val] w fun e w' => e = .returned (.tuple #[.slice none 0 0, .int .i64 2]) ∧ Fr [] w w' := by
  have hR := fun W h => right_any W h x hx
  rw [hr] at hR
  have hval : x.val = .agg #[.int .i64 x.tag, .int .i64 x.cls, .bool x.used, .int .i64 x.label, .int .u32 x.name, .int .u32 x.next, .int .u32 x.prev, .int .u32 x.refs, .int .u64 x.expiry, .int .u16 x.typ, .int .i64 x.size, .int .u32 x.hash] := rfl
  rw [hval] at hR ⊢
  clear hval hr hx
  go_enter Tryd.func63, Tryd.ntmps63
  go_wp2_with fail
  with_reducible refine (hR _ (hT.alloc _)).mono ?_
  rintro e w1 ⟨rfl, f1⟩
  have f2 : Fr [] w w1 := ((Fr.refl [] w).alloc _).trans f1
  clear f1 hR
  go_wp2_with fail
  go_ret2
  exact ⟨rfl, f2⟩

def EncRel (w : World) (x : HB) (g : Nat) (v : Value) (wr : World) : Prop :=
  ∃ k : Nat, k ≤ 12 ∧ v = .int .i64 k ∧ Fr [] w wr ∧ Tabs wr ∧ Blk wr w.heap.size 43 x.cells ∧ Blk wr g 5 (bytes (x.encTo k))
def EncIn (w : World) (g : Nat) (l : List Nat) (a n b r : Nat) (cs : Array Value) (v : Value) (wr : World) : Prop :=
  ∃ j : Nat, j ≤ b ∧ v = .int .i64 j ∧ Fr [] w wr ∧ Tabs wr ∧ Blk wr w.heap.size 43 cs ∧ Blk wr g 5 (bytes (putTo l a n j)) ∧ Blk wr r 101 #[.int .i64 a, .int .i64 b]

theorem putTo_none (l : List Nat) (a v n : Nat) (h : n = 0) : putTo l a v n = l := by subst h; rfl

set_option maxRecDepth 100000 in
set_option maxHeartbeats 8000000 in
theorem encode_yes (w : World) (hT : Tabs w) (x : HB) (hx : x.Ok) (hr : x.right = true) :
    Calls Tryd.prog 63 #[x.val] w (EncP x w) := by
  have hR := fun W h => right_any W h x hx
  rw [hr] at hR
  have hN := fun W => numbers_any W x hx
  obtain ⟨arr, hA, hs, hg⟩ := nums_arr x
  rw [hA] at hN
  have HG := Lib.hid hg
  have HNW := Lib.hid (nums_w64 x hx)
  clear hg hA hs
  have hwi := wh_in x.tag
  have hsz := szZ_le x.tag
  have hpl := fun W h f => place_any W h x.tag f
  have hSz := fun W h => size_any W h x.tag
  have hmk := run_make_bytes (P := Tryd.prog) 63 5 Tryd.underlying63 info_u8 .i64 .i64 (szZ x.tag) (by omega)
  have HL := Lib.hid (encTo_len x)
  obtain ⟨P, hP⟩ : ∃ P, P = EncP x w := ⟨_, rfl⟩
  rw [← hP]
  have HQ := Lib.hid hP
  have hE0 : x.encTo 0 = List.replicate (szZ x.tag) 0 := rfl
  have HE0 := Lib.hid hE0
  have HES := Lib.hid (show ∀ k : Nat, x.encTo (k + 1) = putTo (x.encTo k) (whZ x.tag k).1 (x.num k) (whZ x.tag k).2 from fun _ => rfl)
  have HER := Lib.hid (show ∀ g v wr, EncRel w x g v wr = (∃ k : Nat, k ≤ 12 ∧ v = .int .i64 k ∧ Fr [] w wr ∧ Tabs wr ∧ Blk wr w.heap.size 43 x.cells ∧ Blk wr g 5 (bytes (x.encTo k))) from fun _ _ _ => rfl)
  have hval : x.val = .agg #[.int .i64 x.tag, .int .i64 x.cls, .bool x.used, .int .i64 x.label, .int .u32 x.name, .int .u32 x.next, .int .u32 x.prev, .int .u32 x.refs, .int .u64 x.expiry, .int .u16 x.typ, .int .i64 x.size, .int .u32 x.hash] := rfl
  rw [hval] at hR hN ⊢
  generalize EncRel w x = R at *
  have hHW := Lib.hid hT.size
  clear hval hr hx hP hE0
  generalize hszn : szZ x.tag = sz at *
  have HSZ := Lib.hid hszn
  clear hszn
  go_enter Tryd.func63, Tryd.ntmps63
  go_wp2_with fail
  with_reducible refine (hR _ (hT.alloc _)).mono ?_
  rintro e w1 ⟨rfl, f1⟩
  have hT1 : Tabs w1 := (hT.alloc _).fr f1 (by simp)
  have hB1 : Blk w1 w.heap.size 43 x.cells := (Blk.new w _ _).fr f1 (by simp)
  have hF1 : Fr [] w w1 := ((Fr.refl [] w).alloc _).trans f1
  have h0 := hB1.cell 0
  simp [HB.cells] at h0
  clear f1 hR
  go_wp2_with fail
  with_reducible refine (hSz _ hT1).mono ?_
  rintro e w' ⟨rfl, rfl⟩
  have hlt := hB1.lt
  (have c0 := hB1.cell 0; have c1 := hB1.cell 1; have c2 := hB1.cell 2; have c3 := hB1.cell 3; have c4 := hB1.cell 4; have c5 := hB1.cell 5; have c6 := hB1.cell 6; have c7 := hB1.cell 7; have c8 := hB1.cell 8; have c9 := hB1.cell 9; have c10 := hB1.cell 10; have c11 := hB1.cell 11; simp [HB.cells] at c0 c1 c2 c3 c4 c5 c6 c7 c8 c9 c10 c11)
  clear h0
  go_wp2_with fail
  with_reducible refine (hN _).mono ?_
  rintro e w2 ⟨rfl, f2⟩
  have hT2 : Tabs w2 := (hT1.alloc _).fr f2 (by simp)
  have hB2 : Blk w2 w.heap.size 43 x.cells := (hB1.alloc _).fr f2 (by simp)
  have hF2 : Fr [] w w2 := (hF1.alloc _).trans f2
  have hG2 : Blk w2 w'.heap.size 5 (bytes (x.encTo 0)) := by rw [HE0.out]; exact (Blk.new _ _ _).fr f2 (by simp)
  have hgl : w.heap.size < w'.heap.size := hlt
  clear f2 hN hF1 hB1 hT1 hT hSz
  clear c0 c1 c2 c3 c4 c5 c6 c7 c8 c9 c10 c11
  generalize w'.heap.size = g at *
  clear hlt
  go_wp2_with fail
  go_loopw [18] (fun v W => R g v W) (fun v _ => 12 - (intOf v).toNat)
  case atStart => rw [HER.out]; exact ⟨0, by omega, rfl, hF2, hT2, hB2, hG2⟩
  case round =>
    clear hF2 hT2 hB2 hG2
    rw [HER.out] at hrel
    obtain ⟨k, hk, rfl, hF, hTr, hB, hG⟩ := hrel
    by_cases hlt : k < 12
    · have hix := run_index_nums arr k hlt (x.num k) (HG.out k hlt)
      have hnx := HES.out k
      have hnl := HNW.out k
      have hlen := HL.out k
      have hwk := hwi k
      have hp := fun W h => hpl W h k
      clear hwi hpl
      have c0 := hB.cell 0
      simp [HB.cells] at c0
      have hltB := hB.lt
      generalize whZ x.tag k = ab at *
      obtain ⟨a, b⟩ := ab
      simp only [rowV] at hp
      simp only at hnx hwk
      generalize x.num k = n at *
      have HNX := Lib.hid hnx
      generalize hl : x.encTo k = l at *
      have HLN := Lib.hid hlen
      clear hnx hlen hl
      go_wp2_with fail
      with_reducible refine (hp _ hTr).mono ?_
      rintro e w3 ⟨rfl, f3⟩
      have hT3 := (hTr.fr f3 (by simp)).alloc (.cells #[.int .i64 a, .int .i64 b] 101)
      have hB3 := (hB.fr f3 (by simp)).alloc (.cells #[.int .i64 a, .int .i64 b] 101)
      have hG3 := (hG.fr f3 (by simp)).alloc (.cells #[.int .i64 a, .int .i64 b] 101)
      have hF3 := (hF.trans f3).alloc (.cells #[.int .i64 a, .int .i64 b] 101)
      have hR3 : Blk (w3.alloc (.cells #[.int .i64 a, .int .i64 b] 101)) w3.heap.size 101 #[.int .i64 a, .int .i64 b] := Blk.new _ _ _
      have hg3 : g < w3.heap.size := Nat.lt_of_lt_of_le hG.lt f3.size
      have hb3 : w.heap.size < w3.heap.size := Nat.lt_of_lt_of_le hltB f3.size
      clear f3 hp hB hG hF hTr hltB c0 hix
      go_wp2_with fail
      generalize w3.heap.size = r at *
      have HEI := Lib.hid (show ∀ v wr, EncIn w g l a n b r x.cells v wr = (∃ j : Nat, j ≤ b ∧ v = .int .i64 j ∧ Fr [] w wr ∧ Tabs wr ∧ Blk wr w.heap.size 43 x.cells ∧ Blk wr g 5 (bytes (putTo l a n j)) ∧ Blk wr r 101 #[.int .i64 a, .int .i64 b]) from fun _ _ => rfl)
      generalize EncIn w g l a n b r x.cells = RI at *
      go_loopw [28] (fun v W => RI v W) (fun v _ => b - (intOf v).toNat)
      case atStart => rw [HEI.out]; exact ⟨0, by omega, rfl, hF3, hT3, hB3, hG3, hR3⟩
      case round =>
        clear hF3 hT3 hB3 hG3 hR3
        rename_i hrel
        rw [HEI.out] at hrel
        obtain ⟨j, hj, rfl, hF, hTr, hB, hG, hR⟩ := hrel
        have r0 := hR.cell 0
        have r1 := hR.cell 1
        simp at r0 r1
        by_cases hlj : j < b
        · have hsz8 : a + j < sz := by omega
          have hU := u8_div n j
          have hgc := hG.cell (a + j)
          have hgf := hG.frozen (a + j)
          rw [bytes_get _ _ (by rw [putTo_len, HLN.out]; exact hsz8)] at hgc
          generalize (putTo l a n j)[a + j]?.getD 0 = old at *
          have h64 : j ≤ 7 := by omega
          have hsz32 : sz ≤ 32 := hsz
          go_wp2_with fail
          go_region
          go_wp2_with fail
          have hv : ((n : Int) / 256 ^ j % 256) = ((n / 256 ^ j % 256 : Nat) : Int) := by rw [Int.natCast_emod, Int.natCast_ediv, Int.natCast_pow]; rfl
          rw [hv, HEI.out]
          refine ⟨⟨j + 1, by omega, by go_num, (hF.setCell (.inr (Nat.le_of_lt hgl)) _).drew, ?_, (hB.far (p := ⟨g, a + j, none⟩) (by simp; omega) _).drew, ?_, (hR.far (p := ⟨g, a + j, none⟩) (by simp; omega) _).drew⟩, by simp [intOf]; omega⟩
          · exact hTr.fr (((Fr.refl [g] wr).setCell (.inl (by simp)) _).drew) (by have := hTr.size; simp; have := hHW.out; omega)
          · have := (hG.set (a + j) (.int .u8 ((n / 256 ^ j % 256 : Nat) : Int))).drew
            rw [bytes_set] at this
            exact this
        · obtain rfl : j = b := by omega
          go_wp2
          rw [HER.out]
          exact ⟨⟨k + 1, by omega, by go_num, hF, hTr, hB, by rw [HNX.out]; exact hG⟩, by simp [intOf]; omega⟩
    · obtain rfl : k = 12 := by omega
      clear hwi hpl
      go_wp2_with fail
      rw [HQ.out]
      refine ⟨g, ?_, hG, Nat.le_of_lt hgl, hF⟩
      rw [HSZ.out]
      rfl
end Go.Proofs.YtcagljjbiodcoaaDoor
