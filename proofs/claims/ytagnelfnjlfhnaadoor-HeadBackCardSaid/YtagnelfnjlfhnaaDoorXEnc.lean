/- ref13.Encode: the document's bytes of a head. -/
import Derived.Test.YtagnelfnjlfhnaaDoorHeads
import Derived.Test.YtagnelfnjlfhnaaDoorH13i
namespace Go.Proofs.YtagnelfnjlfhnaaDoor
set_option linter.unusedVariables false
open Go.RowKit

theorem xencode_no (w : World) (x : HB) (hx : x.Ok) (hr : x.right = false) :
    Calls Tryd.prog 10 #[x.val] w fun e w' => e = .returned (.tuple #[.slice none 0 0, .int .i64 2]) ∧ Fr [] w w' := by
  have hR := fun W => xright_any W x hx
  rw [hr] at hR
  have hval : x.val = .agg #[.int .i64 x.tag, .int .i64 x.cls, .bool x.used, .int .i64 x.label, .int .u32 x.name, .int .u32 x.next, .int .u32 x.prev, .int .u32 x.refs, .int .u64 x.expiry, .int .u16 x.typ, .int .i64 x.size, .int .u32 x.hash] := rfl
  rw [hval] at hR ⊢
  clear hval hr hx
  go_enter Tryd.func10, Tryd.ntmps10
  go_wp2_with fail
  with_reducible refine (hR _).mono ?_
  rintro e w1 ⟨rfl, f1⟩
  have f2 : Fr [] w w1 := ((Fr.refl [] w).alloc _).trans f1
  clear f1 hR
  go_wp2_with fail
  go_ret2
  exact ⟨rfl, f2⟩

def XEncRel (w : World) (x : HB) (g : Nat) (v : Value) (wr : World) : Prop :=
  ∃ k : Nat, k ≤ 12 ∧ v = .int .i64 k ∧ Fr [] w wr ∧ Blk wr w.heap.size 26 x.cells ∧ Blk wr g 5 (bytes (x.encTo k))
def XEncIn (w : World) (g : Nat) (l : List Nat) (a n b : Nat) (cs : Array Value) (u v : Value) (wr : World) : Prop :=
  ∃ j : Nat, j ≤ b ∧ v = .int .i64 j ∧ u = .int .u64 ((n / 256 ^ j : Nat) : Int) ∧ Fr [] w wr ∧ Blk wr w.heap.size 26 cs ∧ Blk wr g 5 (bytes (putTo l a n j))

set_option maxRecDepth 100000 in
set_option maxHeartbeats 8000000 in
theorem xencode_yes (w : World) (x : HB) (hx : x.Ok) (hr : x.right = true) :
    Calls Tryd.prog 10 #[x.val] w (EncP x w) := by
  have hR := fun W => xright_any W x hx
  rw [hr] at hR
  have hN := fun W k hk => xnumber W x hx k hk
  have HNW := Lib.hid (nums_w64 x hx)
  have hwi := wh_in x.tag
  have hsz := szZ_le x.tag
  have hpl := fun W f => xwhere_any W x.tag f
  have hSz := fun W => xsize_any W x.tag
  have hmk := run_make_bytes (P := Tryd.prog) 27 5 Tryd.underlying27 info_u8 .i64 .i64 (szZ x.tag) (by omega)
  have HL := Lib.hid (encTo_len x)
  obtain ⟨P, hP⟩ : ∃ P, P = EncP x w := ⟨_, rfl⟩
  rw [← hP]
  have HQ := Lib.hid hP
  have hE0 : x.encTo 0 = List.replicate (szZ x.tag) 0 := rfl
  have HE0 := Lib.hid hE0
  have HES := Lib.hid (show ∀ k : Nat, x.encTo (k + 1) = putTo (x.encTo k) (whZ x.tag k).1 (x.num k) (whZ x.tag k).2 from fun _ => rfl)
  have HER := Lib.hid (show ∀ g v wr, XEncRel w x g v wr = (∃ k : Nat, k ≤ 12 ∧ v = .int .i64 k ∧ Fr [] w wr ∧ Blk wr w.heap.size 26 x.cells ∧ Blk wr g 5 (bytes (x.encTo k))) from fun _ _ _ => rfl)
  have hval : x.val = .agg #[.int .i64 x.tag, .int .i64 x.cls, .bool x.used, .int .i64 x.label, .int .u32 x.name, .int .u32 x.next, .int .u32 x.prev, .int .u32 x.refs, .int .u64 x.expiry, .int .u16 x.typ, .int .i64 x.size, .int .u32 x.hash] := rfl
  rw [hval] at hR hN ⊢
  generalize XEncRel w x = R at *
  clear hval hr hx hP hE0
  generalize hszn : szZ x.tag = sz at *
  have HSZ := Lib.hid hszn
  clear hszn
  go_enter Tryd.func10, Tryd.ntmps10
  go_wp2_with fail
  with_reducible refine (hR _).mono ?_
  rintro e w1 ⟨rfl, f1⟩
  have hB1 : Blk w1 w.heap.size 26 x.cells := (Blk.new w _ _).fr f1 (by simp)
  have hF1 : Fr [] w w1 := ((Fr.refl [] w).alloc _).trans f1
  have h0 := hB1.cell 0
  simp [HB.cells] at h0
  clear f1 hR
  go_wp2_with fail
  with_reducible refine (hSz _).mono ?_
  rintro e w2 ⟨rfl, f2⟩
  have hB2 := (hB1.fr f2 (by simp)).alloc (.cells (bytes (List.replicate sz 0)) 5)
  have hF2 := (hF1.trans f2).alloc (.cells (bytes (List.replicate sz 0)) 5)
  have hG2 : Blk (w2.alloc (.cells (bytes (List.replicate sz 0)) 5)) w2.heap.size 5 (bytes (x.encTo 0)) := by rw [HE0.out]; exact Blk.new _ _ _
  have hgl : w.heap.size < w2.heap.size := Nat.lt_of_lt_of_le hB1.lt f2.size
  clear f2 hF1 hB1 hSz h0
  go_wp2_with fail
  generalize w2.heap.size = g at *
  go_loopw [5] (fun v W => R g v W) (fun v _ => 12 - (intOf v).toNat)
  case atStart => rw [HER.out]; exact ⟨0, by omega, rfl, hF2, hB2, hG2⟩
  case round =>
    clear hF2 hB2 hG2
    rw [HER.out] at hrel
    obtain ⟨k, hk, rfl, hF, hB, hG⟩ := hrel
    by_cases hlt : k < 12
    · have hnu := fun W => hN W k hlt
      have hnx := HES.out k
      have hnl := HNW.out k
      have hlen := HL.out k
      have hwk := hwi k
      have hp := fun W => hpl W k
      clear hwi hpl hN
      generalize whZ x.tag k = ab at *
      obtain ⟨a, b⟩ := ab
      simp only [twoV] at hp
      simp only at hnx hwk
      generalize x.num k = n at *
      have HNX := Lib.hid hnx
      have HNL := Lib.hid hnl
      clear hnl
      generalize hl : x.encTo k = l at *
      have HLN := Lib.hid hlen
      clear hnx hlen hl
      have c0 := hB.cell 0
      simp [HB.cells] at c0
      go_wp2_with fail
      with_reducible refine (hp _).mono ?_
      rintro e w3 ⟨rfl, f3⟩
      have hB3 := hB.fr f3 (by simp)
      have hG3 := hG.fr f3 (by simp)
      have hF3 := hF.trans f3
      clear f3 hp hB hG hF c0
      (have c0 := hB3.cell 0; have c1 := hB3.cell 1; have c2 := hB3.cell 2; have c3 := hB3.cell 3; have c4 := hB3.cell 4; have c5 := hB3.cell 5; have c6 := hB3.cell 6; have c7 := hB3.cell 7; have c8 := hB3.cell 8; have c9 := hB3.cell 9; have c10 := hB3.cell 10; have c11 := hB3.cell 11; simp [HB.cells] at c0 c1 c2 c3 c4 c5 c6 c7 c8 c9 c10 c11)
      go_wp2_with fail
      with_reducible refine (hnu _).mono ?_
      rintro e w4 ⟨rfl, f4⟩
      have hB4 := hB3.fr f4 (by simp)
      have hG4 := hG3.fr f4 (by simp)
      have hF4 := hF3.trans f4
      clear f4 hnu hB3 hG3 hF3
      clear c0 c1 c2 c3 c4 c5 c6 c7 c8 c9 c10 c11
      go_wp2_with fail
      have HEI := Lib.hid (show ∀ u v wr, XEncIn w g l a n b x.cells u v wr = (∃ j : Nat, j ≤ b ∧ v = .int .i64 j ∧ u = .int .u64 ((n / 256 ^ j : Nat) : Int) ∧ Fr [] w wr ∧ Blk wr w.heap.size 26 x.cells ∧ Blk wr g 5 (bytes (putTo l a n j))) from fun _ _ _ => rfl)
      generalize XEncIn w g l a n b x.cells = RI at *
      go_loopw [8, 9] (fun u v W => RI u v W) (fun _ v _ => b - (intOf v).toNat)
      case atStart => rw [HEI.out]; exact ⟨0, by omega, rfl, by simp, hF4, hB4, hG4⟩
      case round =>
        clear hF4 hB4 hG4
        rename_i hrel
        rw [HEI.out] at hrel
        obtain ⟨j, hj, rfl, rfl, hF, hB, hG⟩ := hrel
        by_cases hlj : j < b
        · have hsz8 : a + j < sz := by omega
          have hgc := hG.cell (a + j)
          have hgf := hG.frozen (a + j)
          rw [bytes_get _ _ (by rw [putTo_len, HLN.out]; exact hsz8)] at hgc
          generalize (putTo l a n j)[a + j]?.getD 0 = old at *
          have h64 : j ≤ 7 := by omega
          have hsz32 : sz ≤ 32 := hsz
          have HPS := Lib.hid (show putTo l a n (j + 1) = (putTo l a n j).set (a + j) (n / 256 ^ j % 256) from rfl)
          have hdiv : n / 256 ^ (j + 1) = n / 256 ^ j / 256 := by rw [Nat.pow_succ, Nat.div_div_eq_div_mul]
          have HD := Lib.hid hdiv
          have hmn : n / 256 ^ j < 18446744073709551616 := Nat.lt_of_le_of_lt (Nat.div_le_self _ _) HNL.out
          have HM := Lib.hid hmn
          clear hmn
          generalize n / 256 ^ j = m at *
          clear hdiv
          go_wp2_with fail
          have hq : IntKind.u64.wrap ((m : Int) / 256) = ((m / 256 : Nat) : Int) := by
            have e : ((m : Int) / 256) = ((m / 256 : Nat) : Int) := by rw [Int.natCast_ediv]; rfl
            rw [e]
            exact u64_nat _ (by have := HM.out; omega)
          have hv : ((m : Int) % 256) = ((m % 256 : Nat) : Int) := by rw [Int.natCast_emod]; rfl
          rw [hq, hv, HEI.out]
          refine ⟨⟨j + 1, by omega, by go_num, by rw [HD.out], hF.setCell (.inr (Nat.le_of_lt hgl)) _, hB.far (p := ⟨g, a + j, none⟩) (by simp; omega) _, ?_⟩, by simp [intOf]; omega⟩
          have := hG.set (a + j) (.int .u8 ((m % 256 : Nat) : Int))
          rw [bytes_set, ← HPS.out] at this
          exact this
        · obtain rfl : j = b := by omega
          go_wp2
          rw [HER.out]
          exact ⟨⟨k + 1, by omega, by go_num, hF, hB, by rw [HNX.out]; exact hG⟩, by simp [intOf]; omega⟩
    · obtain rfl : k = 12 := by omega
      clear hwi hpl hN
      go_wp2_with fail
      rw [HQ.out]
      refine ⟨g, ?_, hG, Nat.le_of_lt hgl, hF⟩
      rw [HSZ.out]
      rfl
end Go.Proofs.YtagnelfnjlfhnaaDoor
