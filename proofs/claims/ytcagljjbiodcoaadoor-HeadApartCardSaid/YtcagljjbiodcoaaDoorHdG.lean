/- Heads of blocks in a memory: head.touched, head.Get. -/
import Derived.Test.YtcagljjbiodcoaaDoorHdP
import Derived.Test.YtcagljjbiodcoaaDoorDec2
namespace Go.Proofs.YtcagljjbiodcoaaDoor
set_option linter.unusedVariables false
open Go.RowKit

theorem htouched (w : World) (q : MH) (t : TM) (h : IsH w q t) (x a b kind v : Nat) (hat : At t (x + a) b kind v) :
    Calls Tryd.prog 67 #[.pointer (some ⟨q.m, 0, none⟩), .int .i64 x, .agg #[.int .i64 a, .int .i64 b], .int .i64 kind] w fun e w' => e = .returned (.tuple #[.int .u64 v, .bool true]) ∧ IsH w' q t ∧ Fr q.blocks w w' := by
  have hfa := fun W (hW : IsT W q t) => tfaults hW
  have hld : ∀ W, IsT W q t → Calls Tryd.prog 69 #[.pointer (some ⟨q.m, 0, none⟩), .int .i64 ((x : Int) + a), .int .i64 b, .int .i64 kind] W fun e w'' => e = .returned (.int .u64 v) ∧ IsT w'' q t ∧ Fr q.blocks W w'' := fun W hW => by
    have := tload hW hat
    rw [Int.natCast_add] at this
    exact this
  have HI := Lib.hid h
  have hls : x + a ≤ 1099511627776 := by
    obtain ⟨c1, c2, c3, c4, c5⟩ := h.m.ok.cfg
    have := hat.fit
    unfold lsize lbase at this; omega
  have hw1 : IntKind.i64.wrap ((x : Int) + a) = (x : Int) + a := IntWalk.i64_in _ (by omega)
  have hlt := h.m.lt
  have hbq := Lib.hid (show w.heap.size ∉ q.blocks from fun hm => by have := hlt _ hm; omega)
  generalize t.ft = ft at *
  clear h hat hlt
  go_enter Tryd.func67, Tryd.ntmps67
  go_wp2_with fail
  with_reducible refine (hfa _ (HI.out.alloc _).m).mono ?_
  rintro e w1 ⟨rfl, f1⟩
  have hF1 := Lib.hid (((Fr.refl [] w).alloc (.cells #[.int .i64 a, .int .i64 b] 101)).trans f1)
  have hI1 := Lib.hid (HI.out.fr0 hF1.out)
  have hB1 := (Blk.new w 101 #[.int .i64 a, .int .i64 b]).fr f1 (by simp)
  have c0 := hB1.cell 0
  have c1 := hB1.cell 1
  simp at c0 c1
  have HB1 := Lib.hid hB1
  clear f1 hB1
  go_wp2_with fail
  with_reducible refine (hld _ hI1.out.m).mono ?_
  rintro e w2 ⟨rfl, h2, f2⟩
  have hI2 := Lib.hid (hI1.out.step h2 f2)
  have hF2 := Lib.hid (hF1.out.nil.trans f2)
  clear h2 f2 c0 c1 hld
  go_wp2_with fail
  with_reducible refine (hfa _ hI2.out.m).mono ?_
  rintro e w3 ⟨rfl, f3⟩
  go_wp2_with fail
  go_ret2
  exact ⟨rfl, hI2.out.fr0 f3, hF2.out.trans f3.nil⟩

def GetP (w : World) (q : MH) (t : TM) (X : HB) (e : Ending) (w' : World) : Prop := e = .returned (.tuple #[X.val, .int .i64 0]) ∧ IsH w' q t ∧ Fr q.blocks w w'
def GetRel (w : World) (q : MH) (t : TM) (B B2 : Nat) (N : Nat → Nat) (v : Value) (wr : World) : Prop :=
  ∃ k : Nat, k ≤ 12 ∧ v = .int .i64 k ∧ IsH wr q t ∧ Fr q.blocks w wr ∧ Blk wr B 43 zeroC ∧ Blk wr B2 98 (numsA N k)

set_option maxRecDepth 100000 in
set_option maxHeartbeats 8000000 in
theorem hget (w : World) (q : MH) (t : TM) (h : IsH w q t) (x tag kind : Nat) (X : HB) (hh : HeadTo t x tag kind X.num 12) (hX : X.Ok) (hr : X.right = true) (ht : X.tag = tag) (hly : Lies tag kind X.num) (hk : kind = 5 ∨ kind = 6) :
    Calls Tryd.prog 27 #[.pointer (some ⟨q.m, 0, none⟩), .int .i64 x] w (GetP w q t X) := by
  have HLY := Lib.hid (fun W (hW : IsH W q t) => hlying hW hh (by decide) hly)
  have hi := fun w => is_any w (tag : Nat)
  have ht2 := hh.tg
  have b1 : (decide (0 ≤ (tag : Int)) && decide ((tag : Int) < 3)) = true := by simp; omega
  rw [b1] at hi
  have hkk : ((kind : Int) != 5) = false ∨ (((kind : Int) != 5) = true ∧ ((kind : Int) != 6) = false) := by
    rcases hk with e | e
    · exact .inl (by rw [e]; rfl)
    · exact .inr ⟨by rw [e]; rfl, by rw [e]; rfl⟩
  have hlack : X.lackTo 12 = false := by
    have : X.right = true := hr
    unfold HB.right at this
    revert this
    cases hl : X.lackTo 12
    · intro; rfl
    · intro h; simp [hl] at h
  have HL0 := Lib.hid (show ∀ f, f < 12 → (wh tag f).2 = 0 → X.num f = 0 from fun f hf h0 => lack_num X 12 hlack f hf (by rw [ht, whZ_nat tag f (by omega) hf]; exact h0))
  have HTO := Lib.hid (show ∀ k : Nat, k < 12 → (wh tag k).2 ≠ 0 → ∀ W, IsH W q t → Calls Tryd.prog 67 #[.pointer (some ⟨q.m, 0, none⟩), .int .i64 x, .agg #[.int .i64 (wh tag k).1, .int .i64 (wh tag k).2], .int .i64 kind] W fun e w' => e = .returned (.tuple #[.int .u64 (X.num k), .bool true]) ∧ IsH w' q t ∧ Fr q.blocks W w' from
    fun k hk h0 W hW => htouched W q t hW x _ _ kind _ (hh.at k hk hk h0))
  have hbl := fun W => block_any W X.num
  rw [ofNums_num X hX] at hbl
  have hrt := fun W h => right_any W h X hX
  rw [hr] at hrt
  have hpl := fun W h (f : Nat) => place_any W h tag f
  have h2 : decide ((1 : Int) < (X.num 2 : Nat)) = false := by
    have : X.num 2 ≤ 1 := by unfold HB.num HB.nums; simp; split <;> omega
    simp; omega
  have HZ := Lib.hid (numsA_0 X.num)
  have HI := Lib.hid h
  have hlt := h.m.lt
  have HBQ := Lib.hid (show ∀ k, w.heap.size ≤ k → k ∉ q.blocks from fun k hk hm => by have := hlt _ hm; omega)
  have HHI := Lib.hid h.hi
  have hDR := Lib.hid (show ∀ B B2 v wr, GetRel w q t B B2 X.num v wr = (∃ k : Nat, k ≤ 12 ∧ v = .int .i64 k ∧ IsH wr q t ∧ Fr q.blocks w wr ∧ Blk wr B 43 zeroC ∧ Blk wr B2 98 (numsA X.num k)) from fun _ _ _ _ => rfl)
  generalize GetRel w q t = R at *
  have hval : X.val = .agg #[.int .i64 tag, .int .i64 X.cls, .bool X.used, .int .i64 X.label, .int .u32 X.name, .int .u32 X.next, .int .u32 X.prev, .int .u32 X.refs, .int .u64 X.expiry, .int .u16 X.typ, .int .i64 X.size, .int .u32 X.hash] := by rw [← ht]; rfl
  have hcells : X.cells = #[.int .i64 tag, .int .i64 X.cls, .bool X.used, .int .i64 X.label, .int .u32 X.name, .int .u32 X.next, .int .u32 X.prev, .int .u32 X.refs, .int .u64 X.expiry, .int .u16 X.typ, .int .i64 X.size, .int .u32 X.hash] := by rw [← ht]; rfl
  have hP := Lib.hid (show ∀ w', IsH w' q t → Fr q.blocks w w' → GetP w q t X (.returned (.tuple #[.agg #[.int .i64 tag, .int .i64 X.cls, .bool X.used, .int .i64 X.label, .int .u32 X.name, .int .u32 X.next, .int .u32 X.prev, .int .u32 X.refs, .int .u64 X.expiry, .int .u16 X.typ, .int .i64 X.size, .int .u32 X.hash], .int .i64 0])) w' from fun w' a b => ⟨by rw [← hval], a, b⟩)
  rw [hval] at hbl hrt
  generalize GetP w q t X = P at *
  have hzz : zeroC = #[.int .i64 0, .int .i64 0, .bool false, .int .i64 0, .int .u32 0, .int .u32 0, .int .u32 0, .int .u32 0, .int .u64 0, .int .u16 0, .int .i64 0, .int .u32 0] := rfl
  have HZZ := Lib.hid hzz
  have HCE := Lib.hid hcells
  clear b1 h hh hX hr ht hly hlack hval hcells hzz hlt hk
  rcases hkk with hk1 | ⟨hk1, hk2⟩
  all_goals
    go_enter Tryd.func27, Tryd.ntmps27
    go_wp2_with fail
    with_reducible refine (HLY.out _ (HI.out.alloc _)).mono ?_
    rintro e w1 ⟨rfl, h1, f1⟩
    have hI1 := Lib.hid h1
    have hF1 := Lib.hid (((Fr.refl q.blocks w).alloc (.cells zeroC 43)).trans f1)
    have hB1 := Lib.hid ((Blk.new w 43 zeroC).fr f1 (HBQ.out _ (Nat.le_refl _)))
    clear f1 h1
    go_wp2_with fail
    with_reducible refine (hi _).mono ?_
    rintro e w' ⟨rfl, rfl⟩
    have hN1 := Lib.hid (Blk.new w' 98 #[.int .u64 0, .int .u64 0, .int .u64 0, .int .u64 0, .int .u64 0, .int .u64 0, .int .u64 0, .int .u64 0, .int .u64 0, .int .u64 0, .int .u64 0, .int .u64 0])
    have hBN : w.heap.size < w'.heap.size := hB1.out.lt
    have START : R w.heap.size w'.heap.size X.num (.int .i64 0) (w'.alloc (.cells #[.int .u64 0, .int .u64 0, .int .u64 0, .int .u64 0, .int .u64 0, .int .u64 0, .int .u64 0, .int .u64 0, .int .u64 0, .int .u64 0, .int .u64 0, .int .u64 0] 98)) := by
      rw [hDR.out]
      exact ⟨0, by omega, rfl, hI1.out.alloc _, hF1.out.alloc _, hB1.out.alloc _, by rw [HZ.out]; exact hN1.out⟩
    clear hN1 hB1 hF1 hI1
    have HBN := Lib.hid (HBQ.out w'.heap.size (Nat.le_of_lt hBN))
    have HB0 := Lib.hid (HBQ.out w.heap.size (Nat.le_refl _))
    have hNB : w.heap.size ≤ w'.heap.size := Nat.le_of_lt hBN
    generalize hb2 : w'.heap.size = B2 at *
    go_wp2_with fail
    clear hb2
    go_loopw [33] (fun v W => R w.heap.size B2 X.num v W) (fun v _ => 12 - (intOf v).toNat)
    case atStart => exact START
    case round =>
      clear START
      rw [hDR.out] at hrel
      obtain ⟨k, hk, rfl, hI, hF, hBz, hBn⟩ := hrel
      have HIr := Lib.hid hI
      have HFr := Lib.hid hF
      have HZr := Lib.hid hBz
      have HNr := Lib.hid hBn
      have hltn := hBn.lt
      clear hI hF hBz hBn
      by_cases hlt : k < 12
      · have hp := fun W h => hpl W h k
        have hset := numsA_set X.num k hlt
        have hskip : X.num k = 0 → numsA X.num (k + 1) = numsA X.num k := fun e => by
          rw [← hset, e]
          apply Array.ext_getElem?
          intro i
          rw [Array.getElem?_setIfInBounds]
          by_cases e2 : k = i
          · subst e2
            rw [if_pos rfl, if_pos (by simp [numsA]; omega), numsA_get _ _ _ hlt, if_neg (Nat.lt_irrefl k)]
          · rw [if_neg e2]
        clear hpl
        by_cases hw : (wh tag k).2 = 0
        · have hwz : whZ tag k = (0, 0) := wh_zero tag k (by rw [whZ_nat tag k (by omega) hlt]; exact hw)
          rw [hwz] at hp
          simp only [rowV] at hp
          have HS := Lib.hid (hskip (HL0.out k hlt hw))
          have hE : ∀ w, (Op.equalIn 10000 101 (.agg #[.int .i64 0, .int .i64 0]) (.agg #[.int .i64 0, .int .i64 0])).run Tryd.prog w = .ok true w := fun w => eq_row 0 0 0 0 w
          clear hwz hw hset hskip
          go_wp2_with fail
          with_reducible refine (hp _ HIr.out.tabs).mono ?_
          rintro e w3 ⟨rfl, f3⟩
          have hI3 := Lib.hid ((HIr.out.fr0 f3).alloc (.cells #[.int .i64 0, .int .i64 0] 101))
          have n0 := hI3.out.tabs.now 0
          have n1 := hI3.out.tabs.now 1
          simp [nowT, intsA] at n0 n1
          have hF3 := Lib.hid ((HFr.out.trans f3.nil).alloc (.cells #[.int .i64 0, .int .i64 0] 101))
          have hB3 := Lib.hid ((HZr.out.fr f3 (by simp)).alloc (.cells #[.int .i64 0, .int .i64 0] 101))
          have hN3 := Lib.hid ((HNr.out.fr f3 (by simp)).alloc (.cells #[.int .i64 0, .int .i64 0] 101))
          clear f3 hp
          go_wp2_with fail
          rw [hDR.out]
          exact ⟨⟨k + 1, by omega, by go_num, hI3.out, hF3.out, hB3.out, by rw [HS.out]; exact hN3.out⟩, by simp [intOf]; omega⟩
        · have hwz : whZ tag k = wh tag k := whZ_nat tag k (by omega) hlt
          rw [hwz] at hp
          have hto := HTO.out k hlt hw
          have HS := Lib.hid hset
          clear hwz hset hskip
          generalize wh tag k = ab at *
          obtain ⟨a, b⟩ := ab
          simp only [rowV] at hp
          simp only at hw hto
          have hb0 : ((b : Int) == 0) = false := by simp; omega
          have hE : ∀ w, (Op.equalIn 10000 101 (.agg #[.int .i64 a, .int .i64 b]) (.agg #[.int .i64 0, .int .i64 0])).run Tryd.prog w = .ok false w := fun w => by rw [eq_row, hb0, Bool.and_false]
          clear hw
          go_wp2_with fail
          with_reducible refine (hp _ HIr.out.tabs).mono ?_
          rintro e w3 ⟨rfl, f3⟩
          have hI3 := Lib.hid ((HIr.out.fr0 f3).alloc (.cells #[.int .i64 a, .int .i64 b] 101))
          have n0 := hI3.out.tabs.now 0
          have n1 := hI3.out.tabs.now 1
          simp [nowT, intsA] at n0 n1
          have hF3 := Lib.hid ((HFr.out.trans f3.nil).alloc (.cells #[.int .i64 a, .int .i64 b] 101))
          have hB3 := Lib.hid ((HZr.out.fr f3 (by simp)).alloc (.cells #[.int .i64 a, .int .i64 b] 101))
          have hN3 := Lib.hid ((HNr.out.fr f3 (by simp)).alloc (.cells #[.int .i64 a, .int .i64 b] 101))
          clear f3 hp
          go_wp2_with fail
          with_reducible refine (hto _ hI3.out).mono ?_
          rintro e w4 ⟨rfl, h4, f4⟩
          have hI4 := Lib.hid h4
          have hF4 := Lib.hid (hF3.out.trans f4)
          have hB4 := Lib.hid (hB3.out.fr f4 HB0.out)
          have hN4 := Lib.hid (hN3.out.fr f4 HBN.out)
          have hc4 := hN4.out.cell k
          have hf4 := hN4.out.frozen k
          rw [numsA_get _ _ _ hlt, if_neg (Nat.lt_irrefl k)] at hc4
          clear h4 f4 hto n0 n1 hE
          go_wp2_with fail
          rw [hDR.out]
          refine ⟨⟨k + 1, by omega, by go_num, ?_, hF4.out.setCell (.inr hNB) _, hB4.out.far (p := ⟨B2, k, none⟩) (by simp; omega) _, ?_⟩, by simp [intOf]; omega⟩
          · have hfz : Fr [B2] w4 (w4.setCell ⟨B2, k, none⟩ (.int .u64 (X.num k))) := (Fr.refl _ _).setCell (.inl (by simp)) _
            refine ⟨hI4.out.m.fr hfz (fun k hk hm => ?_) (fun k hk hm => ?_), hI4.out.tabs.fr hfz (by have := HI.out.tabs.size; simp; omega), hI4.out.hi⟩
            · simp at hm; subst hm; exact HBN.out hk
            · simp at hm; subst hm; have := HI.out.m.tab.size; omega
          · have := hN4.out.set k (.int .u64 (X.num k : Int))
            rw [HS.out] at this
            exact this
      · obtain rfl : k = 12 := by omega
        have hva := numsA_12 X.num
        have hBn := HNr.out
        have c0 := hBn.cell 0
        have c1 := hBn.cell 1
        have c2 := hBn.cell 2
        have c3 := hBn.cell 3
        have c4 := hBn.cell 4
        have c5 := hBn.cell 5
        have c6 := hBn.cell 6
        have c7 := hBn.cell 7
        have c8 := hBn.cell 8
        have c9 := hBn.cell 9
        have c10 := hBn.cell 10
        have c11 := hBn.cell 11
        rw [hva] at c0 c1 c2 c3 c4 c5 c6 c7 c8 c9 c10 c11 hbl
        simp at c0 c1 c2 c3 c4 c5 c6 c7 c8 c9 c10 c11
        clear hva hpl hBn
        go_wp2_with fail
        with_reducible refine (hbl _).mono ?_
        rintro e w3 ⟨rfl, f3⟩
        have hI3 := Lib.hid (HIr.out.fr0 f3)
        have hF3 := Lib.hid (HFr.out.trans f3.nil)
        have hBz3 := Lib.hid (HZr.out.fr f3 (by simp))
        have hBn3 := HNr.out.fr f3 (by simp)
        have e2 := (hBn3.alloc (.cells #[.int .i64 tag, .int .i64 X.cls, .bool X.used, .int .i64 X.label, .int .u32 X.name, .int .u32 X.next, .int .u32 X.prev, .int .u32 X.refs, .int .u64 X.expiry, .int .u16 X.typ, .int .i64 X.size, .int .u32 X.hash] 43)).cell 2
        rw [numsA_get _ _ _ (by omega), if_pos (by omega)] at e2
        clear f3 hbl hBn3
        clear c0 c1 c2 c3 c4 c5 c6 c7 c8 c9 c10 c11
        have hBx : Blk (w3.alloc (.cells #[.int .i64 tag, .int .i64 X.cls, .bool X.used, .int .i64 X.label, .int .u32 X.name, .int .u32 X.next, .int .u32 X.prev, .int .u32 X.refs, .int .u64 X.expiry, .int .u16 X.typ, .int .i64 X.size, .int .u32 X.hash] 43)) w3.heap.size 43 #[.int .i64 tag, .int .i64 X.cls, .bool X.used, .int .i64 X.label, .int .u32 X.name, .int .u32 X.next, .int .u32 X.prev, .int .u32 X.refs, .int .u64 X.expiry, .int .u16 X.typ, .int .i64 X.size, .int .u32 X.hash] := Blk.new _ _ _
        have HBx := Lib.hid hBx
        have hI4 := Lib.hid (hI3.out.alloc (.cells #[.int .i64 tag, .int .i64 X.cls, .bool X.used, .int .i64 X.label, .int .u32 X.name, .int .u32 X.next, .int .u32 X.prev, .int .u32 X.refs, .int .u64 X.expiry, .int .u16 X.typ, .int .i64 X.size, .int .u32 X.hash] 43))
        have hF4 := Lib.hid (hF3.out.alloc (.cells #[.int .i64 tag, .int .i64 X.cls, .bool X.used, .int .i64 X.label, .int .u32 X.name, .int .u32 X.next, .int .u32 X.prev, .int .u32 X.refs, .int .u64 X.expiry, .int .u16 X.typ, .int .i64 X.size, .int .u32 X.hash] 43))
        have hBz4 := Lib.hid (hBz3.out.alloc (.cells #[.int .i64 tag, .int .i64 X.cls, .bool X.used, .int .i64 X.label, .int .u32 X.name, .int .u32 X.next, .int .u32 X.prev, .int .u32 X.refs, .int .u64 X.expiry, .int .u16 X.typ, .int .i64 X.size, .int .u32 X.hash] 43))
        clear hBx hI3 hF3 hBz3
        go_wp2_with fail
        with_reducible refine (hrt _ hI4.out.tabs).mono ?_
        rintro e w5 ⟨rfl, f5⟩
        have hI5 := Lib.hid (hI4.out.fr0 f5)
        have hF5 := Lib.hid (hF4.out.trans f5.nil)
        have hBz5 := hBz4.out.fr f5 (by simp)
        rw [HZZ.out] at hBz5
        have hBx5 := HBx.out.fr f5 (by simp)
        (have d0 := hBz5.cell 0; have z0 := hBz5.frozen 0; have d1 := hBz5.cell 1; have z1 := hBz5.frozen 1; have d2 := hBz5.cell 2; have z2 := hBz5.frozen 2; have d3 := hBz5.cell 3; have z3 := hBz5.frozen 3; have d4 := hBz5.cell 4; have z4 := hBz5.frozen 4; have d5 := hBz5.cell 5; have z5 := hBz5.frozen 5; have d6 := hBz5.cell 6; have z6 := hBz5.frozen 6; have d7 := hBz5.cell 7; have z7 := hBz5.frozen 7; have d8 := hBz5.cell 8; have z8 := hBz5.frozen 8; have d9 := hBz5.cell 9; have z9 := hBz5.frozen 9; have d10 := hBz5.cell 10; have z10 := hBz5.frozen 10; have d11 := hBz5.cell 11; have z11 := hBz5.frozen 11; simp [HB.cells] at d0 d1 d2 d3 d4 d5 d6 d7 d8 d9 d10 d11)
        (have c0 := hBx5.cell 0; have c1 := hBx5.cell 1; have c2 := hBx5.cell 2; have c3 := hBx5.cell 3; have c4 := hBx5.cell 4; have c5 := hBx5.cell 5; have c6 := hBx5.cell 6; have c7 := hBx5.cell 7; have c8 := hBx5.cell 8; have c9 := hBx5.cell 9; have c10 := hBx5.cell 10; have c11 := hBx5.cell 11; simp [HB.cells] at c0 c1 c2 c3 c4 c5 c6 c7 c8 c9 c10 c11)
        clear hrt f5 hI4 hF4 hBz4 HBx e2
        go_wp2_with fail
        refine gen12 (fun w9 => bodyPost _ _ _ _ _ w9) hBz5 rfl (Fr.refl [w.heap.size] w5) (.inl (by simp)) ?_
        intro w9 hn9 hf9
        have q0 := hn9.cell 0
        have q1 := hn9.cell 1
        have q2 := hn9.cell 2
        have q3 := hn9.cell 3
        have q4 := hn9.cell 4
        have q5 := hn9.cell 5
        have q6 := hn9.cell 6
        have q7 := hn9.cell 7
        have q8 := hn9.cell 8
        have q9 := hn9.cell 9
        have q10 := hn9.cell 10
        have q11 := hn9.cell 11
        simp at q0 q1 q2 q3 q4 q5 q6 q7 q8 q9 q10 q11
        refine bodyPost_ret (by simp [results, Tryd.results27, go_sem, q0, q1, q2, q3, q4, q5, q6, q7, q8, q9, q10, q11]; try rfl) rfl (hP.out _ ⟨hI5.out.m.fr hf9 (fun k hk hm => ?_) (fun k hk hm => ?_), hI5.out.tabs.fr hf9 (by have := HI.out.tabs.size; simpa using this), hI5.out.hi⟩ (hF5.out.step hf9 (by simp)))
        · simp at hm; subst hm; exact HB0.out hk
        · simp at hm; subst hm; have := HI.out.m.tab.size; omega
end Go.Proofs.YtcagljjbiodcoaaDoor
