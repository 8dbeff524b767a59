/- HeadApart of layer 13: what is stored into a field of a block changes no other one. -/
import Derived.Test.YtcagljjbiodcoaaDoorHdG
import Derived.Test.YtcagljjbiodcoaaDoorTmN
import Derived.Test.YtcagljjbiodcoaaDoorHeads
import Derived.Test.YtcagljjbiodcoaaDoorOpenN
namespace Go.Proofs.YtcagljjbiodcoaaDoor
set_option linter.unusedVariables false
open Go.RowKit

theorem cfg7 : Cfg 7 224 := by constructor <;> decide
theorem lb7 : lbase 7 224 = 1136 := by decide
theorem ls7 : lsize 7 224 = 8304 := by decide
/-- What is there behind the mark. -/
def apT (k : Nat) : TM := (newT 7 224).setK 1136 64 k
theorem apT_as (k : Nat) : (apT k).a = 7 ∧ (apT k).s = 224 ∧ (apT k).ft = 0 := ⟨rfl, rfl, rfl⟩
theorem apT_head (tag kind : Nat) (ht : tag ≤ 2) (h0 : kind ≠ 0) (h8 : kind ≤ 8) (n : Nat → Nat) : HeadTo (apT kind) 1136 tag kind n 0 := by
  have hs := sz_le tag ht
  have e1 : lbase (apT kind).a (apT kind).s = 1136 := lb7
  have e2 : lsize (apT kind).a (apT kind).s = 8304 := ls7
  refine ⟨ht, by rw [e1]; exact Nat.le_refl _, by decide, by rw [e2]; omega, h0, fun g h1 h2 => ?_, fun f hf => by omega, fun f hf => by omega⟩
  unfold apT
  rw [setK_kind (newT_ok cfg7) 1136 64 kind h8 (by rw [show (newT 7 224).a = 7 from rfl, show (newT 7 224).s = 224 from rfl, lb7]; exact Nat.le_refl _), if_pos (by omega)]
theorem setB_ft (t : TM) (x k v : Nat) : (t.setB x k v).ft = t.ft := rfl
theorem putH_ft (t : TM) (x tag : Nat) (n : Nat → Nat) : ∀ k, (t.putH x tag n k).ft = t.ft
  | 0 => rfl
  | k + 1 => by
    rw [TM.putH]
    split
    · exact putH_ft t x tag n k
    · exact (setB_ft _ _ _ _).trans (putH_ft t x tag n k)
theorem tag_of_right {X : HB} (h : X.right = true) : ∃ t : Nat, X.tag = t ∧ t ≤ 2 := by
  have : 0 ≤ X.tag ∧ X.tag ≤ 2 := by
    unfold HB.right rightT at h
    simp at h
    omega
  exact ⟨X.tag.toNat, by omega, by omega⟩

def kdOf (X : HB) : Nat := if X.tag = 0 then 6 else 5
def MarkIs (k : Int) (T0 T1 : TM) : Prop := ∀ (q : MH) (W : World), IsT W q T0 → Calls Tryd.prog 23 #[.pointer (some ⟨q.m, 0, none⟩), .int .i64 1136, .int .i64 64, .int .i64 k] W fun e w' => e = .returned (.int .i64 0) ∧ IsT w' q T1 ∧ Fr q.blocks W w'
theorem mark_is (k : Nat) (k' : Int) (ek : k' = k) (h8 : k ≤ 8) : MarkIs k' (newT 7 224) (apT k) := fun q W h =>
  tmark h 1136 64 k (by rw [show (newT 7 224).a = 7 from rfl, show (newT 7 224).s = 224 from rfl, lb7]; exact Nat.le_refl _) (by decide) (by decide) (by rw [show (newT 7 224).a = 7 from rfl, show (newT 7 224).s = 224 from rfl, ls7]; decide) h8 1136 64 k' rfl rfl ek
theorem mark_both (X : HB) : ((X.tag == 0) = true ∧ MarkIs 6 (newT 7 224) (apT (kdOf X))) ∨ ((X.tag == 0) = false ∧ MarkIs 5 (newT 7 224) (apT (kdOf X))) := by
  unfold kdOf
  by_cases h : X.tag = 0
  · rw [if_pos h]; exact .inl ⟨by simpa using h, mark_is 6 6 rfl (by decide)⟩
  · rw [if_neg h]; exact .inr ⟨by simpa using h, mark_is 5 5 rfl (by decide)⟩

theorem apart_bad (w : World) (hM : TabM w) (hT : Tabs w) (X : HB) (hX : X.Ok) (hr : X.right = false) (f : Int) (v : Nat) :
    Calls Tryd.prog 6 #[X.val, .int .i64 f, .int .u64 v] w fun e w' => e = .returned (.bool true) ∧ Fr [] w w' := by
  have hn : ∀ W, TabM W → Calls Tryd.prog 17 #[.agg #[.int .i64 7, .int .i64 224]] W (NewT W 7 224) := fun W h => tnew W h 7 224 cfg7
  unfold NewT at hn
  have hhe := fun W h => heads_any W h
  have hR := fun W h => right_any W h X hX
  rw [hr] at hR
  have hpt := fun (q : MH) W (h : IsH W q (apT (kdOf X))) => hput_no W q (apT (kdOf X)) h 1136 X hX hr
  have hmk := mark_both X
  unfold MarkIs at hmk
  have HM := Lib.hid hM
  have HT := Lib.hid hT
  have hval : X.val = .agg #[.int .i64 X.tag, .int .i64 X.cls, .bool X.used, .int .i64 X.label, .int .u32 X.name, .int .u32 X.next, .int .u32 X.prev, .int .u32 X.refs, .int .u64 X.expiry, .int .u16 X.typ, .int .i64 X.size, .int .u32 X.hash] := rfl
  rw [hval] at hR hpt ⊢
  clear hval hr hX hM hT
  generalize newT 7 224 = T0 at *
  generalize apT (kdOf X) = T1 at *
  rcases hmk with ⟨htb, hmk⟩ | ⟨htb, hmk⟩
  all_goals
    go_enter Tryd.func6, Tryd.ntmps6
    go_wp2_with fail
    with_reducible refine (hn _ (HM.out.fr ((Fr.refl [] w).alloc _) (by simp))).mono ?_
    rintro e w1 ⟨q, rfl, h1, hq, f1⟩
    have f01 := ((Fr.refl [] w).alloc (.cells #[.int .i64 X.tag, .int .i64 X.cls, .bool X.used, .int .i64 X.label, .int .u32 X.name, .int .u32 X.next, .int .u32 X.prev, .int .u32 X.refs, .int .u64 X.expiry, .int .u16 X.typ, .int .i64 X.size, .int .u32 X.hash] 43)).trans f1
    have hB1 := Lib.hid ((Blk.new w 43 #[.int .i64 X.tag, .int .i64 X.cls, .bool X.used, .int .i64 X.label, .int .u32 X.name, .int .u32 X.next, .int .u32 X.prev, .int .u32 X.refs, .int .u64 X.expiry, .int .u16 X.typ, .int .i64 X.size, .int .u32 X.hash]).fr f1 (by simp))
    have hq0 : ∀ k ∈ q.blocks, w.heap.size < k := fun k hk => by have := hq k hk; simp at this; omega
    have H1 := Lib.hid (IsH.mk h1 (HT.out.fr f01 (by simp)) (fun k hk => by have := hq0 k hk; have := HT.out.size; omega))
    have F1 := Lib.hid f01
    have hc1 := hB1.out.cell
    have hBQ := Lib.hid (show w.heap.size ∉ q.blocks from fun hm => by have := hq0 _ hm; omega)
    have hQ0 := Lib.hid hq0
    clear h1 hq f1 f01 hn hq0
    go_wp2_with fail
    with_reducible refine (hmk q _ H1.out.m).mono ?_
    rintro e w2 ⟨rfl, h2, f2⟩
    have H2 := Lib.hid (H1.out.step h2 f2)
    have F2 := Lib.hid (F1.out.step f2 (fun k hk => .inr (Nat.le_of_lt (hQ0.out k hk))))
    have hB2 := Lib.hid (hB1.out.fr f2 hBQ.out)
    have hc2 := hB2.out.cell
    clear h2 f2 hmk hc1 H1
    go_wp2_with fail
    with_reducible refine (hpt q _ H2.out).mono ?_
    rintro e w3 ⟨rfl, h3, f3⟩
    have H3 := Lib.hid h3
    have F3 := Lib.hid (F2.out.trans f3)
    have hc3 := (hB2.out.fr f3 (by simp)).cell
    clear h3 f3 hpt hc2 H2
    go_wp2_with fail
    with_reducible refine (hR _ H3.out.tabs).mono ?_
    rintro e w4 ⟨rfl, f4⟩
    have H4 := Lib.hid (H3.out.fr0 f4)
    have F4 := Lib.hid (F3.out.trans f4)
    clear f4 hR H3 hc3
    go_wp2_with fail
    with_reducible refine (hhe _ H4.out.tabs).mono ?_
    rintro e w5 ⟨rfl, f5⟩
    go_wp2_with fail
    go_ret
    exact ⟨rfl, F4.out.trans f5⟩

theorem wh_widths (tag f : Int) : (whZ tag f).2 = 0 ∨ (whZ tag f).2 = 1 ∨ (whZ tag f).2 = 2 ∨ (whZ tag f).2 = 4 ∨ (whZ tag f).2 = 8 := by
  unfold whZ
  split
  · next h =>
    by_cases h0 : (wh tag.toNat f.toNat).2 = 0
    · exact .inl h0
    · have := (wh_ok tag.toNat f.toNat (by omega) (by omega) h0).1
      omega
  · exact .inl rfl
def Ap1 (w : World) (q : MH) (T : TM) (B B5 : Nat) (C : Array Value) (M : Nat → Nat) (v : Value) (wr : World) : Prop :=
  ∃ k : Nat, k ≤ 12 ∧ v = .int .i64 k ∧ IsH wr q T ∧ Fr [] w wr ∧ Blk wr B 43 C ∧ Blk wr B5 22 (numsA M k)
def Ap2 (w : World) (q : MH) (T : TM) (B5 : Nat) (M : Nat → Nat) (v : Value) (wr : World) : Prop :=
  ∃ k : Nat, k ≤ 12 ∧ v = .int .i64 k ∧ IsH wr q T ∧ Fr [] w wr ∧ Blk wr B5 22 (numsA M 12)
theorem numsA_made (n : Nat → Nat) : numsA n 0 = madeCells #[.int .u64 0] 12 := by
  apply Array.ext
  · simp [numsA, madeCells]
  · intro i h1 h2
    simp [numsA, madeCells, Nat.mod_one]
theorem info_u64 : (Tryd.prog.info? 22).map (fun i => (i.zero, i.size, i.bytes)) = some (some (.int .u64 0), 1, 8) := by kernel_rfl

set_option maxRecDepth 100000 in
set_option maxHeartbeats 8000000 in
theorem apart_ok (w : World) (hM : TabM w) (hT : Tabs w) (X : HB) (hX : X.Ok) (hr : X.right = true) (f : Int) (v : Nat) (hv : v < 18446744073709551616) :
    Calls Tryd.prog 6 #[X.val, .int .i64 f, .int .u64 v] w fun e w' => e = .returned (.bool true) ∧ Fr [] w w' := by
  have hn : ∀ W, TabM W → Calls Tryd.prog 17 #[.agg #[.int .i64 7, .int .i64 224]] W (NewT W 7 224) := fun W h => tnew W h 7 224 cfg7
  unfold NewT at hn
  have hhe := fun W h => heads_any W h
  obtain ⟨tag, ht, ht2⟩ := tag_of_right hr
  have hkd : kdOf X ≠ 0 ∧ kdOf X ≤ 8 ∧ ((kdOf X = 6 ∧ tag = 0) ∨ (kdOf X = 5 ∧ tag ≠ 0)) := by
    unfold kdOf
    by_cases h : X.tag = 0
    · rw [if_pos h]; exact ⟨by decide, by decide, .inl ⟨rfl, by omega⟩⟩
    · rw [if_neg h]; exact ⟨by decide, by decide, .inr ⟨rfl, by omega⟩⟩
  obtain ⟨hk0, hk8, hk56⟩ := hkd
  have hh0 := apT_head tag (kdOf X) ht2 hk0 hk8 X.num
  have hTok : (apT (kdOf X)).Ok := setK_ok (newT_ok cfg7) _ _ _ hk8
  have hfit : ∀ f, f < 12 → (wh tag f).2 ≠ 0 → X.num f < 256 ^ (wh tag f).2 := fun f hf h0 => num_fit X hX tag (by omega) ht hr f hf h0
  have hh12 := putH_head hTok hh0 hfit 12 (Nat.le_refl _)
  have hok2 := putH_ok hTok 1136 tag X.num 12
  have hn0 : X.num 0 = tag := by
    unfold HB.num HB.nums
    simp only [List.getElem?_cons_zero, Option.getD_some]
    rw [ht]
    unfold w64
    omega
  have hly : Lies tag (kdOf X) X.num := by
    rcases hk56 with ⟨a, b⟩ | ⟨a, b⟩
    · exact .inr ⟨by omega, b⟩
    · exact .inl ⟨a, hn0⟩
  have hpt := fun (q : MH) W (h : IsH W q (apT (kdOf X))) => show Calls Tryd.prog 24 #[.pointer (some ⟨q.m, 0, none⟩), .int .i64 1136, X.val] W _ from hput_yes W q (apT (kdOf X)) h 1136 tag (kdOf X) X.num hh0 X hX hr ht (by rcases hk56 with h | h <;> omega)
  have hgt := fun (q : MH) W (h : IsH W q ((apT (kdOf X)).putH 1136 tag X.num 12)) => show Calls Tryd.prog 27 #[.pointer (some ⟨q.m, 0, none⟩), .int .i64 1136] W _ from hget W q _ h 1136 tag (kdOf X) X hh12 hX hr ht hly (by omega)
  unfold PutP at hpt
  unfold GetP at hgt
  have hfa : ((apT (kdOf X)).putH 1136 tag X.num 12).ft = 0 := by rw [putH_ft]; rfl
  have hfl := fun (q : MH) W (h : IsT W q ((apT (kdOf X)).putH 1136 tag X.num 12)) => tfaults h
  rw [hfa] at hfl
  have hld := fun (q : MH) W (h : IsH W q ((apT (kdOf X)).putH 1136 tag X.num 12)) (k : Nat) => show Calls Tryd.prog 28 #[.pointer (some ⟨q.m, 0, none⟩), .int .i64 1136, .int .i64 k] W _ from hload h hh12 hly k
  have hst := fun (q : MH) W (h : IsH W q ((apT (kdOf X)).putH 1136 tag X.num 12)) => show Calls Tryd.prog 29 #[.pointer (some ⟨q.m, 0, none⟩), .int .i64 1136, .int .i64 f, .int .u64 v] W _ from hstore h hh12 hly f v hv
  obtain ⟨hh3, hok3⟩ := hh12.hst hok2 f v
  have hly3 : f ≠ 0 → Lies tag (kdOf X) (if hstB tag f v then up X.num f.toNat v else X.num) := fun hf0 => by
    by_cases hb : hstB tag f v = true
    · rw [if_pos hb]
      have : f.toNat ≠ 0 := by
        simp [hstB] at hb
        obtain ⟨k, rfl, _, _⟩ := whZ_some hb.1
        omega
      rcases hly with ⟨a, b⟩ | ⟨a, b⟩
      · exact .inl ⟨a, by rw [up_ne _ _ (Ne.symm this)]; exact b⟩
      · exact .inr ⟨a, b⟩
    · rw [if_neg hb]; exact hly
  have hld3 := fun (hf0 : f ≠ 0) (q : MH) W (h : IsH W q (((apT (kdOf X)).putH 1136 tag X.num 12).hst 1136 tag f v)) (k : Nat) => show Calls Tryd.prog 28 #[.pointer (some ⟨q.m, 0, none⟩), .int .i64 1136, .int .i64 k] W _ from hload h hh3 (hly3 hf0) k
  have hnv : ∀ k : Nat, k < 12 → hvN tag (if hstB tag f v then up X.num f.toNat v else X.num) k = if hstB tag f v = true ∧ (k : Int) = f then v else hvN tag X.num k := fun k hk => by
    by_cases hb : hstB tag f v = true
    · have e : (if hstB tag f v = true then up X.num f.toNat v else X.num) = up X.num f.toNat v := if_pos hb
      rw [e]
      have hb2 := hb
      simp [hstB] at hb2
      by_cases hkf : (k : Int) = f
      · subst hkf
        rw [if_pos ⟨hb, rfl⟩]
        unfold hvN
        rw [if_neg hb2.1, Int.toNat_natCast, up_same]
      · rw [if_neg (fun h => hkf h.2)]
        have hne : (k : Int).toNat ≠ f.toNat := by
          obtain ⟨j, rfl, _, _⟩ := whZ_some hb2.1
          omega
        unfold hvN
        rw [up_ne _ _ hne]
    · have e : (if hstB tag f v = true then up X.num f.toNat v else X.num) = X.num := if_neg hb
      rw [e, if_neg (fun h => hb h.1)]
  have hwr := fun W h => where_any W h tag f
  have hwid := wh_widths tag f
  have hbd : ∀ n, (whZ tag f).2 = n → hstB tag f v = (n != 0 && decide (v < 256 ^ n)) := fun n e => by unfold hstB; rw [e]
  have hE : ∀ w, (Op.equalIn 10000 43 (.agg #[.int .i64 tag, .int .i64 X.cls, .bool X.used, .int .i64 X.label, .int .u32 X.name, .int .u32 X.next, .int .u32 X.prev, .int .u32 X.refs, .int .u64 X.expiry, .int .u16 X.typ, .int .i64 X.size, .int .u32 X.hash]) (.agg #[.int .i64 tag, .int .i64 X.cls, .bool X.used, .int .i64 X.label, .int .u32 X.name, .int .u32 X.next, .int .u32 X.prev, .int .u32 X.refs, .int .u64 X.expiry, .int .u16 X.typ, .int .i64 X.size, .int .u32 X.hash])).run Tryd.prog w = .ok true w := fun w => by
    have := eq_head X X w
    rw [(HB.same_iff X X).2 rfl] at this
    rw [← ht]
    exact this
  have hmk := mark_both X
  rw [ht] at hmk
  unfold MarkIs at hmk
  have HM := Lib.hid hM
  have HT := Lib.hid hT
  have hval : X.val = .agg #[.int .i64 tag, .int .i64 X.cls, .bool X.used, .int .i64 X.label, .int .u32 X.name, .int .u32 X.next, .int .u32 X.prev, .int .u32 X.refs, .int .u64 X.expiry, .int .u16 X.typ, .int .i64 X.size, .int .u32 X.hash] := by rw [← ht]; rfl
  rw [hval] at hpt hgt ⊢
  have HLD3 := Lib.hid hld3
  have HNV := Lib.hid hnv
  have HBD := Lib.hid hbd
  have hmake : ∀ w, (Instr.makeSlice 29 (.int .i64 12) (.int .i64 12)).run Tryd.prog w = .ok (.slice (some ⟨w.heap.size, 0, none⟩) 12 12) (w.alloc (.cells (madeCells #[.int .u64 0] 12) 22)) := fun w => run_make_row' (P := Tryd.prog) 29 22 (.int .u64 0) 8 Tryd.underlying29 info_u64 rfl .i64 .i64 12 (by decide) (by decide) w
  clear hval hr hX hM hT hk0 hk8 hk56 hh0 hTok hfit hh12 hok2 hn0 hly hfa hh3 hok3 hly3 ht hnv hbd hld3
  generalize newT 7 224 = T0 at *
  generalize (apT (kdOf X)).putH 1136 tag X.num 12 = T2 at *
  generalize apT (kdOf X) = T1 at *
  generalize T2.hst 1136 tag f v = T3 at *
  generalize hstB tag f v = b at *
  generalize whZ tag f = ab at *
  obtain ⟨a0, n0⟩ := ab
  simp only [twoV] at hwr
  simp only at hwid HBD
  generalize (if b = true then up X.num f.toNat v else X.num) = N3 at *
  rcases hmk with ⟨htb, hmk⟩ | ⟨htb, hmk⟩
  all_goals
    go_enter Tryd.func6, Tryd.ntmps6
    go_wp2_with fail
    with_reducible refine (hn _ (HM.out.fr ((Fr.refl [] w).alloc _) (by simp))).mono ?_
    rintro e w1 ⟨q, rfl, h1, hq, f1⟩
    have f01 := ((Fr.refl [] w).alloc (.cells #[.int .i64 tag, .int .i64 X.cls, .bool X.used, .int .i64 X.label, .int .u32 X.name, .int .u32 X.next, .int .u32 X.prev, .int .u32 X.refs, .int .u64 X.expiry, .int .u16 X.typ, .int .i64 X.size, .int .u32 X.hash] 43)).trans f1
    have hB1 := Lib.hid ((Blk.new w 43 #[.int .i64 tag, .int .i64 X.cls, .bool X.used, .int .i64 X.label, .int .u32 X.name, .int .u32 X.next, .int .u32 X.prev, .int .u32 X.refs, .int .u64 X.expiry, .int .u16 X.typ, .int .i64 X.size, .int .u32 X.hash]).fr f1 (by simp))
    have hq0 : ∀ k ∈ q.blocks, w.heap.size < k := fun k hk => by have := hq k hk; simp at this; omega
    have H1 := Lib.hid (IsH.mk h1 (HT.out.fr f01 (by simp)) (fun k hk => by have := hq0 k hk; have := HT.out.size; omega))
    have F1 := Lib.hid f01
    have hc1 := hB1.out.cell
    have hBQ := Lib.hid (show w.heap.size ∉ q.blocks from fun hm => by have := hq0 _ hm; omega)
    have hQ0 := Lib.hid hq0
    clear h1 hq f1 f01 hn hq0
    go_wp2_with fail
    with_reducible refine (hmk q _ H1.out.m).mono ?_
    rintro e w2 ⟨rfl, h2, f2⟩
    have H2 := Lib.hid (H1.out.step h2 f2)
    have F2 := Lib.hid (F1.out.step f2 (fun k hk => .inr (Nat.le_of_lt (hQ0.out k hk))))
    have hB2 := Lib.hid (hB1.out.fr f2 hBQ.out)
    have hc2 := hB2.out.cell
    clear h2 f2 hmk hc1 H1
    go_wp2_with fail
    with_reducible refine (hpt q _ H2.out).mono ?_
    rintro e w3 ⟨rfl, h3, f3⟩
    have H3 := Lib.hid h3
    have F3 := Lib.hid (F2.out.step f3 (fun k hk => .inr (Nat.le_of_lt (hQ0.out k hk))))
    have hB3 := Lib.hid (hB2.out.fr f3 hBQ.out)
    clear h3 f3 hpt hc2 H2
    go_wp2_with fail
    with_reducible refine (hgt q _ H3.out).mono ?_
    rintro e w4 ⟨rfl, h4, f4⟩
    have H4 := Lib.hid h4
    have F4 := Lib.hid (F3.out.step f4 (fun k hk => .inr (Nat.le_of_lt (hQ0.out k hk))))
    have hB4 := Lib.hid (hB3.out.fr f4 hBQ.out)
    have hc4 := hB4.out.cell
    have hsz4 := hB4.out.lt
    clear h4 f4 hgt H3
    go_wp2_with fail
    with_reducible refine (hfl q _ (H4.out.alloc _).m).mono ?_
    rintro e w5 ⟨rfl, f5⟩
    have H5 := Lib.hid ((H4.out.alloc (.cells #[.int .i64 tag, .int .i64 X.cls, .bool X.used, .int .i64 X.label, .int .u32 X.name, .int .u32 X.next, .int .u32 X.prev, .int .u32 X.refs, .int .u64 X.expiry, .int .u16 X.typ, .int .i64 X.size, .int .u32 X.hash] 43)).fr0 f5)
    have F5 := Lib.hid ((F4.out.alloc (.cells #[.int .i64 tag, .int .i64 X.cls, .bool X.used, .int .i64 X.label, .int .u32 X.name, .int .u32 X.next, .int .u32 X.prev, .int .u32 X.refs, .int .u64 X.expiry, .int .u16 X.typ, .int .i64 X.size, .int .u32 X.hash] 43)).trans f5)
    have hB5 := Lib.hid ((hB4.out.alloc (.cells #[.int .i64 tag, .int .i64 X.cls, .bool X.used, .int .i64 X.label, .int .u32 X.name, .int .u32 X.next, .int .u32 X.prev, .int .u32 X.refs, .int .u64 X.expiry, .int .u16 X.typ, .int .i64 X.size, .int .u32 X.hash] 43)).fr f5 (by simp))
    have hsz5 : w.heap.size < w5.heap.size := hB5.out.lt
    clear f5 hfl hc4 hE H4 F4 hB4
    go_wp2_with fail
    have hB6 := Lib.hid (Blk.new w5 22 (madeCells #[.int .u64 0] 12))
    have START : Ap1 w q T2 w.heap.size w5.heap.size #[.int .i64 tag, .int .i64 X.cls, .bool X.used, .int .i64 X.label, .int .u32 X.name, .int .u32 X.next, .int .u32 X.prev, .int .u32 X.refs, .int .u64 X.expiry, .int .u16 X.typ, .int .i64 X.size, .int .u32 X.hash] (fun k => hvN tag X.num k) (.int .i64 0) (w5.alloc (.cells (madeCells #[.int .u64 0] 12) 22)) :=
      ⟨0, by omega, rfl, H5.out.alloc _, F5.out.alloc _, hB5.out.alloc _, by rw [numsA_made]; exact hB6.out⟩
    have hb5q := Lib.hid (show w5.heap.size ∉ q.blocks from fun hm => by have := H5.out.m.lt _ hm; omega)
    have HT5 := Lib.hid (show 5 ≤ w5.heap.size ∧ 6 ≤ w5.heap.size from ⟨H5.out.tabs.size, H5.out.m.tab.size⟩)
    have hszB : w.heap.size ≠ w5.heap.size := by omega
    have hwB : w.heap.size ≤ w5.heap.size := by omega
    clear hB6 H5 F5 hB5 hmake
    generalize w5.heap.size = B5 at *
    generalize hM1 : (fun k : Nat => hvN tag X.num k) = M at *
    have HM1 := Lib.hid hM1
    clear hM1
    have hldM : ∀ (q : MH) W, IsH W q T2 → ∀ k : Nat, Calls Tryd.prog 28 #[.pointer (some ⟨q.m, 0, none⟩), .int .i64 1136, .int .i64 k] W fun e w' => e = .returned (.int .u64 (M k)) ∧ IsH w' q T2 ∧ Fr q.blocks W w' := fun q W h k => by
      have := hld q W h k
      rw [← HM1.out]
      exact this
    have HLDM := Lib.hid hldM
    clear hld hldM
    go_loopw [12] (fun z W => Ap1 w q T2 w.heap.size B5 #[.int .i64 tag, .int .i64 X.cls, .bool X.used, .int .i64 X.label, .int .u32 X.name, .int .u32 X.next, .int .u32 X.prev, .int .u32 X.refs, .int .u64 X.expiry, .int .u16 X.typ, .int .i64 X.size, .int .u32 X.hash] M z W) (fun z _ => 12 - (intOf z).toNat)
    case atStart => exact START
    case round =>
      clear START
      obtain ⟨k, hk, rfl, hI, hF, hBx, hBn⟩ := hrel
      have HIr := Lib.hid hI
      have HFr := Lib.hid hF
      have HXr := Lib.hid hBx
      have HNr := Lib.hid hBn
      clear hI hF hBx hBn
      by_cases hlt : k < 12
      · have hset := Lib.hid (numsA_set M k hlt)
        go_wp2_with fail
        with_reducible refine (HLDM.out q _ HIr.out k).mono ?_
        rintro e w7 ⟨rfl, h7, f7⟩
        have H7 := Lib.hid h7
        have F7 := Lib.hid (HFr.out.step f7 (fun k hk => .inr (Nat.le_of_lt (hQ0.out k hk))))
        have hX7 := Lib.hid (HXr.out.fr f7 hBQ.out)
        have hN7 := Lib.hid (HNr.out.fr f7 hb5q.out)
        have hc7 := hN7.out.cell k
        have hf7 := hN7.out.frozen k
        rw [numsA_get _ _ _ hlt, if_neg (Nat.lt_irrefl k)] at hc7
        have hk0 : (0 : Int) ≤ k := by omega
        have hk12 : (k : Int) < 12 := by omega
        generalize hmk7 : M k = mk7 at *
        have HMK := Lib.hid hmk7
        clear h7 f7 hmk7
        go_wp2_with fail
        go_roundw
        case rel =>
          have hfz : Fr [B5] w7 (w7.setCell ⟨B5, k, none⟩ (.int .u64 mk7)) := (Fr.refl _ _).setCell (.inl (by simp)) _
          refine ⟨k + 1, by omega, by go_num, ⟨H7.out.m.fr hfz (fun k hk hm => ?_) (fun k hk hm => ?_), H7.out.tabs.fr hfz (by have := HT5.out.1; simp; omega), H7.out.hi⟩, F7.out.setCell (.inr hwB) _, hX7.out.far (p := ⟨B5, k, none⟩) hszB _, ?_⟩
          · simp at hm; subst hm; exact hb5q.out hk
          · simp at hm; subst hm; have := HT5.out.2; omega
          · have := hN7.out.set k (.int .u64 (mk7 : Int))
            rw [hset.out] at this
            exact this
        case measure => simp [intOf]; omega
      · obtain rfl : k = 12 := by omega
        by_cases hf0 : f = 0
        · have hfb : (f == 0) = true := by simpa using hf0
          go_wp2_with fail
          with_reducible refine (hhe _ HIr.out.tabs).mono ?_
          rintro e w8 ⟨rfl, f8⟩
          go_wp2_with fail
          go_ret
          exact ⟨rfl, HFr.out.trans f8⟩
        · have hfb : (f == 0) = false := by simpa using hf0
          have hcx := HXr.out.cell 0
          simp at hcx
          have hld3 := Lib.hid (fun W h k => HLD3.out hf0 q W h k)
          go_wp2_with fail
          with_reducible refine (hst q _ HIr.out).mono ?_
          rintro e w8 ⟨rfl, h8, f8⟩
          have H8 := Lib.hid h8
          have F8 := Lib.hid (HFr.out.step f8 (fun k hk => .inr (Nat.le_of_lt (hQ0.out k hk))))
          have hX8 := (HXr.out.fr f8 hBQ.out).cell 0
          have hN8 := Lib.hid (HNr.out.fr f8 hb5q.out)
          simp at hX8
          clear h8 f8 hst hcx
          go_wp2_with fail
          with_reducible refine (hwr _ H8.out.tabs).mono ?_
          rintro e w9 ⟨rfl, f9⟩
          have H9 := Lib.hid (H8.out.fr0 f9)
          have F9 := Lib.hid (F8.out.trans f9)
          have hN9 := Lib.hid (hN8.out.fr f9 (by simp))
          clear f9 hX8 H8 F8 hN8 hwr
          have START2 : Ap2 w q T3 B5 M (.int .i64 0) w9 := ⟨0, by omega, rfl, H9.out, F9.out, hN9.out⟩
          clear H9 F9 hN9
          have hwid2 : (n0 = 0 ∧ b = false) ∨ (n0 = 1 ∧ (!b == decide ((v : Int) < 256)) = false) ∨ (n0 = 2 ∧ (!b == decide ((v : Int) < 65536)) = false) ∨ (n0 = 4 ∧ (!b == decide ((v : Int) < 4294967296)) = false) ∨ (n0 = 8 ∧ b = true) := by
            rcases hwid with e | e | e | e | e
            · exact .inl ⟨e, by rw [HBD.out _ e]; rfl⟩
            · refine .inr (.inl ⟨e, ?_⟩)
              rw [HBD.out _ e, show decide ((v : Int) < 256) = decide (v < 256 ^ 1) from decide_eq_decide.2 (by omega)]
              simp
            · refine .inr (.inr (.inl ⟨e, ?_⟩))
              rw [HBD.out _ e, show decide ((v : Int) < 65536) = decide (v < 256 ^ 2) from decide_eq_decide.2 (by omega)]
              simp
            · refine .inr (.inr (.inr (.inl ⟨e, ?_⟩)))
              rw [HBD.out _ e, show decide ((v : Int) < 4294967296) = decide (v < 256 ^ 4) from decide_eq_decide.2 (by omega)]
              simp
            · refine .inr (.inr (.inr (.inr ⟨e, ?_⟩)))
              rw [HBD.out _ e]
              simp
              omega
          clear hwid HBD
          rcases hwid2 with ⟨rfl, hbn⟩ | ⟨rfl, hbn⟩ | ⟨rfl, hbn⟩ | ⟨rfl, hbn⟩ | ⟨rfl, hbn⟩
          all_goals
            have HBN := Lib.hid hbn
            go_wp2_with fail
            clear hbn
            go_loopw [16] (fun z W => Ap2 w q T3 B5 M z W) (fun z _ => 12 - (intOf z).toNat)
            case atStart => exact START2
            case round =>
              clear START2
              rename_i hrel
              obtain ⟨k, hk, rfl, hI, hF, hBn⟩ := hrel
              have HIr := Lib.hid hI
              have HFr := Lib.hid hF
              have HNr := Lib.hid hBn
              have hlq := Lib.hid hI.m.lt
              clear hI hF hBn
              by_cases hlt : k < 12
              · have hk0 : (0 : Int) ≤ k := by omega
                have hk12 : (k : Int) < 12 := by omega
                have hwas := HNr.out.cell k
                rw [numsA_get _ _ _ hlt, if_pos hlt] at hwas
                have hMk : hvN tag X.num k = M k := by rw [← HM1.out]
                have hval3 := HNV.out k hlt
                rw [hMk] at hval3
                have hLD := hld3.out
                by_cases hcase : b = true ∧ (k : Int) = f
                · rw [if_pos hcase] at hval3
                  obtain ⟨hbt, hkf⟩ := hcase
                  have hkf1 : ((k : Int) == f) = true := by simpa using hkf
                  have hkf2 : ((k : Int) != f) = false := by simp [hkf]
                  have hL := fun W h => hLD W h k
                  simp only [hval3] at hL
                  subst hbt
                  clear hLD hval3 hkf hMk hwas
                  go_wp2_with fail
                  all_goals
                    with_reducible refine (hL _ HIr.out).mono ?_
                    rintro e w10 ⟨rfl, h10, f10⟩
                    have H10 := Lib.hid h10
                    have F10 := Lib.hid (HFr.out.step f10 (fun k hk => .inr (Nat.le_of_lt (hQ0.out k hk))))
                    have hN10 := Lib.hid (HNr.out.fr f10 hb5q.out)
                    clear h10 f10 hL
                    go_wp2_with fail
                    all_goals
                      go_roundw
                      case rel => exact ⟨k + 1, by omega, by go_num, H10.out, F10.out, hN10.out⟩
                      case measure => simp [intOf]; omega
                · rw [if_neg hcase] at hval3
                  have hL := fun W h => hLD W h k
                  simp only [hval3] at hL
                  have hbk : b = false ∨ (b = true ∧ ((k : Int) == f) = false ∧ ((k : Int) != f) = true) := by
                    cases hb : b
                    · exact .inl rfl
                    · have : ¬ (k : Int) = f := fun e => hcase ⟨hb, e⟩
                      exact .inr ⟨rfl, by simpa using this, by simpa using this⟩
                  clear hLD hval3 hMk hcase
                  rcases hbk with rfl | ⟨rfl, hkf1, hkf2⟩
                  all_goals
                    go_wp2_with fail
                    all_goals
                      with_reducible refine (hL _ HIr.out).mono ?_
                      rintro e w10 ⟨rfl, h10, f10⟩
                      have H10 := Lib.hid h10
                      have F10 := Lib.hid (HFr.out.step f10 (fun k hk => .inr (Nat.le_of_lt (hQ0.out k hk))))
                      have hN10 := Lib.hid (HNr.out.fr f10 hb5q.out)
                      have hw10 := hN10.out.cell k
                      rw [numsA_get _ _ _ hlt, if_pos hlt] at hw10
                      clear h10 f10 hL hwas
                      go_wp2_with fail
                      all_goals
                        go_roundw
                        case rel => exact ⟨k + 1, by omega, by go_num, H10.out, F10.out, hN10.out⟩
                        case measure => simp [intOf]; omega
              · obtain rfl : k = 12 := by omega
                go_wp2_with fail
                with_reducible refine (hhe _ HIr.out.tabs).mono ?_
                rintro e w11 ⟨rfl, f11⟩
                go_wp2_with fail
                go_ret
                exact ⟨rfl, HFr.out.trans f11⟩
theorem walk_apart (w : World) (hL : TabM w ∧ Tabs w) (X : HB) (hX : X.Ok) (f : Int) (v : Int) (hv : (Lit.int .u64 v).wf = true) :
    Calls Tryd.prog 6 #[X.val, .int .i64 f, .int .u64 v] w fun e w' => e = .returned (.bool true) ∧ Fr [] w w' := by
  obtain ⟨n, rfl, hn⟩ := lit_u64 hv
  cases hr : X.right
  · exact apart_bad w hL.1 hL.2 X hX hr f n
  · exact apart_ok w hL.1 hL.2 X hX hr f n hn
end Go.Proofs.YtcagljjbiodcoaaDoor
