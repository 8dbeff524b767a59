/- Several texts in one. -/
import Derived.Test.YtkapkbiccppldaaGreatDoorGA
import Derived.Test.YtkapkbiccppldaaGreatDoorGH
import Derived.Test.YtkapkbiccppldaaGreatDoorGB
import Derived.Test.YtkapkbiccppldaaGreatDoorGI
import Derived.Test.YtkapkbiccppldaaGreatDoorGD
import Derived.BigQuiet
import Derived.Deep.RegionLaw
/- The document's slabs in memory: rows of numbers that belong to it. -/
namespace Go.Proofs.YtkapkbiccppldaaGreatDoor
set_option linter.unusedVariables false
set_option linter.unusedSimpArgs false
open Go.RowKit

/-- A slice's numbers lie in a block of B. -/
def RowW (w : World) (B : List Nat) (ad : Option Addr) (cap : Nat) (l : List Nat) : Prop := 0 < l.length → ∃ g, ad = some ⟨g, 0, none⟩ ∧ g ∈ B ∧ RowI w g cap l
theorem RowW.fr {w w' : World} {B S : List Nat} {ad : Option Addr} {cap : Nat} {l : List Nat} (h : RowW w B ad cap l) (hf : Fr S w w') (hS : ∀ k ∈ S, k ∉ B) : RowW w' B ad cap l := fun h0 => by
  obtain ⟨g, e, hb, hr⟩ := h h0
  exact ⟨g, e, hb, hr.fr hf (fun hm => hS _ hm hb)⟩
theorem RowW.mono {w : World} {B B' : List Nat} {ad : Option Addr} {cap : Nat} {l : List Nat} (h : RowW w B ad cap l) (hB : ∀ k ∈ B, k ∈ B') : RowW w B' ad cap l := fun h0 => by
  obtain ⟨g, e, hb, hr⟩ := h h0
  exact ⟨g, e, hB g hb, hr⟩
theorem RowW.nil (w : World) (B : List Nat) (ad : Option Addr) (cap : Nat) : RowW w B ad cap [] := fun h => by simp at h
/-- The block of a slice, if it has one. -/
def rowB (ad : Option Addr) : List Nat := match ad with | some ⟨g, _, _⟩ => [g] | none => []
theorem RowV.toW {w : World} {base cap : Nat} {ad : Option Addr} {l : List Nat} (h : RowV w base ad cap l) : RowW w (rowB ad) ad cap l := fun h0 => by
  obtain ⟨g, e, hb, hr⟩ := h h0
  subst e
  exact ⟨g, rfl, by simp [rowB], hr⟩

/-- A slab's class and rows. -/
def rsc (S : SS) (rf rl : Nat → Option Addr × Nat) (i r : Nat) : Value := if r = 0 then .int .i64 (S.cls i) else if r = 1 then .slice (rf i).1 (S.fr i).length (rf i).2 else .slice (rl i).1 (S.lv i).length (rl i).2
def rsC (a : Nat) (S : SS) (rf rl : Nat → Option Addr × Nat) : Array Value := ((List.range (a * 3)).map fun k => rsc S rf rl (k / 3) (k % 3)).toArray
theorem rsC_size (a : Nat) (S : SS) (rf rl : Nat → Option Addr × Nat) : (rsC a S rf rl).size = a * 3 := by simp [rsC]
theorem rsC_get (a : Nat) (S : SS) (rf rl : Nat → Option Addr × Nat) (i r : Nat) (h : i < a) (hr : r < 3) : (rsC a S rf rl)[i * 3 + r]? = some (rsc S rf rl i r) := by
  have e1 : (i * 3 + r) / 3 = i := by omega
  have e2 : (i * 3 + r) % 3 = r := by omega
  have : i * 3 + r < a * 3 := by omega
  simp [rsC, this, e1, e2]
theorem rsC_ext (a : Nat) (S : SS) (rf rl : Nat → Option Addr × Nat) (cs : Array Value) (hs : cs.size = a * 3) (h : ∀ i r, i < a → r < 3 → cs[i * 3 + r]? = some (rsc S rf rl i r)) : cs = rsC a S rf rl := by
  apply Array.ext
  · rw [hs, rsC_size]
  · intro k h1 h2
    have e := h (k / 3) (k % 3) (by omega) (by omega)
    have e2 := rsC_get a S rf rl (k / 3) (k % 3) (by omega) (by omega)
    rw [show k / 3 * 3 + k % 3 = k by omega] at e e2
    rw [Array.getElem?_eq_getElem h1] at e
    rw [Array.getElem?_eq_getElem h2] at e2
    exact Option.some.inj (e.trans e2.symm)
/-- The document's slabs: the struct, its row, all rows of numbers. -/
structure RS (w : World) (p gl a s : Nat) (B : List Nat) (S : SS) : Prop where
  st : Blk w p 59 #[.int .i64 a, .int .i64 s, .slice (some ⟨gl, 0, none⟩) a a]
  rows : ∃ rf rl, Blk w gl 56 (rsC a S rf rl) ∧ ∀ i, i < a → RowW w B (rf i).1 (rf i).2 (S.fr i) ∧ RowW w B (rl i).1 (rl i).2 (S.lv i)
  hp : p ∈ B
  hg : gl ∈ B
  lt : ∀ k ∈ B, k < w.heap.size
  cfg : Cfg a s
section
variable {w w' : World} {p gl a s : Nat} {B S' : List Nat} {S : SS}
theorem RS.fr (h : RS w p gl a s B S) (hf : Fr S' w w') (hS : ∀ k ∈ S', k ∉ B) : RS w' p gl a s B S := by
  obtain ⟨rf, rl, h1, h2⟩ := h.rows
  exact ⟨h.st.fr hf (fun hm => hS _ hm h.hp), ⟨rf, rl, h1.fr hf (fun hm => hS _ hm h.hg), fun i hi => ⟨(h2 i hi).1.fr hf hS, (h2 i hi).2.fr hf hS⟩⟩, h.hp, h.hg, fun k hk => Nat.lt_of_lt_of_le (h.lt k hk) hf.size, h.cfg⟩
theorem RS.fr0 (h : RS w p gl a s B S) (hf : Fr [] w w') : RS w' p gl a s B S := h.fr hf (by simp)
theorem RS.alloc (h : RS w p gl a s B S) (o : Obj) : RS (w.alloc o) p gl a s B S := h.fr0 ((Fr.refl [] w).alloc o)
theorem RS.drewN (h : RS w p gl a s B S) (n : Nat) : RS (w.drewN n) p gl a s B S := h.fr0 ((Fr.refl [] w).drewN n)
theorem RS.drew (h : RS w p gl a s B S) : RS w.drew p gl a s B S := h.fr0 (Fr.refl [] w).drew
theorem RS.ne (h : RS w p gl a s B S) : p ≠ gl := by
  obtain ⟨rf, rl, h1, h2⟩ := h.rows
  exact h.st.ne_ h1 (by decide)
/-- One slab is written anew: its class and rows. -/
theorem RS.set (h : RS w p gl a s B S) (i c : Nat) (F L : List Nat) (df dl : Option Addr) (cf cl : Nat) (B' : List Nat) (hB : ∀ k ∈ B, k ∈ B') (hlt : ∀ k ∈ B', k < w.heap.size)
    (hF : RowW w B' df cf F) (hL : RowW w B' dl cl L) (hi : i < a) :
    RS (w.setCells gl (i * 3) [.int .i64 c, .slice df F.length cf, .slice dl L.length cl]) p gl a s B' (S.set i c F L) := by
  obtain ⟨rf, rl, h1, h2⟩ := h.rows
  have hne := h.ne
  have fr : Fr [gl] w (w.setCells gl (i * 3) [.int .i64 c, .slice df F.length cf, .slice dl L.length cl]) := (Fr.refl _ _).setCells (.inl (by simp)) _ _
  have hrow : ∀ {ad : Option Addr} {cap : Nat} {l : List Nat}, RowW w B' ad cap l → RowW (w.setCells gl (i * 3) [.int .i64 c, .slice df F.length cf, .slice dl L.length cl]) B' ad cap l := fun {ad cap l} hr h0 => by
    obtain ⟨g, e, hb, hri⟩ := hr h0
    refine ⟨g, e, hb, hri.fr fr (fun hm => ?_)⟩
    obtain ⟨cur, hbk, _⟩ := hri
    have := hbk.ne_ h1 (by decide)
    simp at hm
    exact this hm
  refine ⟨h.st.setCells_far hne _ _, ⟨up rf i (df, cf), up rl i (dl, cl), ?_, fun j hj => ?_⟩, hB _ h.hp, hB _ h.hg, fun k hk => Nat.lt_of_lt_of_le (hlt k hk) fr.size, h.cfg⟩
  · have := h1.setCells [.int .i64 c, .slice df F.length cf, .slice dl L.length cl] (i * 3)
    have e := rsC_ext a (S.set i c F L) (up rf i (df, cf)) (up rl i (dl, cl)) (laid (rsC a S rf rl) (i * 3) [.int .i64 c, .slice df F.length cf, .slice dl L.length cl]) (by rw [laid_size, rsC_size]) (fun j r hj hr => ?_)
    · rw [e] at this; exact this
    · rw [laid_get _ _ _ (by rw [rsC_size]; simp; omega), rsC_get a S rf rl j r hj hr]
      by_cases e : j = i
      · subst e
        rw [if_pos (by simp; omega), Nat.add_sub_cancel_left]
        unfold rsc SS.set
        dsimp only
        rw [up_same, up_same, up_same, up_same, up_same]
        rcases (by omega : r = 0 ∨ r = 1 ∨ r = 2) with rfl | rfl | rfl <;> rfl
      · rw [if_neg (by simp; omega)]
        unfold rsc SS.set
        dsimp only
        rw [up_ne _ _ e, up_ne _ _ e, up_ne _ _ e, up_ne _ _ e, up_ne _ _ e]
  · unfold SS.set
    dsimp only
    by_cases e : j = i
    · subst e
      rw [up_same, up_same, up_same, up_same]
      exact ⟨hrow hF, hrow hL⟩
    · rw [up_ne _ _ e, up_ne _ _ e, up_ne _ _ e, up_ne _ _ e]
      exact ⟨hrow ((h2 j hj).1.mono hB), hrow ((h2 j hj).2.mono hB)⟩
end
end Go.Proofs.YtkapkbiccppldaaGreatDoor

/- The document's classes: Size, Blocks. -/
namespace Go.Proofs.YtkapkbiccppldaaGreatDoor
set_option linter.unusedVariables false
set_option linter.unusedSimpArgs false
open Go.RowKit

theorem csz_doc : ∀ c, c < 10 → 1 ≤ c → csz c = (if c % 2 = 0 then 32 * 2 ^ ((c - 1) / 2) + 32 * 2 ^ ((c - 1) / 2) / 2 else 32 * 2 ^ ((c - 1) / 2)) ∧ 32 * 2 ^ ((c - 1) / 2) ≤ 512 := by decide
theorem pow_le (j m : Nat) (h : j ≤ m) : 32 * 2 ^ j ≤ 32 * 2 ^ m := Nat.mul_le_mul_left _ (Nat.pow_le_pow_right (by decide) h)
section
variable {w : World}
set_option maxRecDepth 100000 in
set_option maxHeartbeats 1000000 in
theorem xsize8 (c : Int) : Calls Tryz.prog 22 #[.int .i64 c] w fun e w' => e = .returned (.int .i64 (cszZ c)) ∧ w' = w := by
  unfold cszZ
  by_cases h : 1 ≤ c ∧ c ≤ 9
  · rw [if_pos h]
    obtain ⟨k, rfl⟩ : ∃ k : Nat, c = k := ⟨c.toNat, by omega⟩
    rw [Int.toNat_natCast]
    obtain ⟨hd, hb⟩ := csz_doc k (by omega) (by omega)
    have b1 : decide ((k : Int) < 1) = false := by simp; omega
    have b1' : decide (k < 1) = false := by simp; omega
    have b2 : decide ((9 : Int) < k) = false := by simp; omega
    have b2' : decide (9 < k) = false := by simp; omega
    have hk : 1 ≤ k ∧ k ≤ 9 := by omega
    have HD := Lib.hid hd
    have HB := Lib.hid hb
    clear h hd hb
    go_enter Tryz.func22, Tryz.ntmps22
    go_wp2_with fail
    go_loop [3, 4] (fun n i => ∃ j : Nat, j ≤ (k - 1) / 2 ∧ i = .int .i64 ((3 + 2 * j : Nat) : Int) ∧ n = .int .i64 ((32 * 2 ^ j : Nat) : Int)) (fun _ i => 100 - (intOf i).toNat)
    case atStart => exact ⟨0, Nat.zero_le _, rfl, rfl⟩
    case round =>
      obtain ⟨j, hj, rfl, rfl⟩ := hrel
      have hp := Nat.le_trans (pow_le j _ hj) HB.out
      by_cases hlt : j < (k - 1) / 2
      · have c1 : decide (((3 + 2 * j : Nat) : Int) ≤ k) = true := by simp; omega
        have c1' : decide (3 + 2 * j ≤ k) = true := by simp; omega
        have c2 : decide (3 + 2 * (j : Int) ≤ k) = true := by simp; omega
        have e1 : 2 ^ (j + 1) = 2 * 2 ^ j := by rw [Nat.pow_succ]; omega
        have e2 : ((32 * 2 ^ (j + 1) : Nat) : Int) = 2 * ((32 * 2 ^ j : Nat) : Int) := by rw [e1]; omega
        have HE := Lib.hid e2
        have e3 : ((3 + 2 * (j + 1) : Nat) : Int) = ((3 + 2 * j : Nat) : Int) + 2 := by omega
        have HE3 := Lib.hid e3
        have hx : 3 + 2 * j ≤ 9 := by omega
        clear e1 e2 e3
        generalize hN : 32 * 2 ^ j = N at *
        generalize hI : 3 + 2 * j = I at *
        have w1 : IntKind.i64.wrap (2 * (N : Int)) = 2 * (N : Int) := IntWalk.i64_in _ (by omega)
        have w2 : IntKind.i64.wrap ((I : Int) + 2) = (I : Int) + 2 := IntWalk.i64_in _ (by omega)
        clear hN hI
        go_wp2_with fail
        go_round
        case rel => exact ⟨j + 1, by omega, by rw [HE3.out], by rw [HE.out]⟩
        case measure => simp [intOf]; omega
      · have hj2 : j = (k - 1) / 2 := by omega
        have c1 : decide (((3 + 2 * j : Nat) : Int) ≤ k) = false := by simp; omega
        have c1' : decide (3 + 2 * j ≤ k) = false := by simp; omega
        have hd := HD.out
        rw [← hj2] at hd
        generalize hN : 32 * 2 ^ j = N at *
        generalize hI : 3 + 2 * j = I at *
        by_cases hp2 : k % 2 = 0
        · have d1 : (((k : Int) % 2) == 0) = true := by simp; omega
          rw [if_pos hp2] at hd
          have w1 : IntKind.i64.wrap ((N : Int) + (N : Int) / 2) = (csz k : Int) := by
            rw [IntWalk.i64_in _ (by omega)]; omega
          clear hd hj2 hj hlt hp2 hN hI
          go_wp2_with fail
          go_ret
          exact ⟨rfl, rfl⟩
        · have d1 : (((k : Int) % 2) == 0) = false := by simp; omega
          rw [if_neg hp2] at hd
          have HD2 := Lib.hid hd
          clear hd hj2 hj hlt hp2 hN hI
          go_wp2_with fail
          go_ret
          exact ⟨(by rw [HD2.out]; rfl), rfl⟩
  · rw [if_neg h]
    have hcc : decide (c < 1) = true ∨ (decide (c < 1) = false ∧ decide (9 < c) = true) := by
      simp only [decide_eq_true_eq, decide_eq_false_iff_not]; omega
    clear h
    rcases hcc with b1 | ⟨b1, b2⟩
    all_goals
      go_enter Tryz.func22, Tryz.ntmps22
      go_wp2_with fail
      go_ret
      exact ⟨rfl, rfl⟩
theorem nbk_iff (c n : Nat) (h : 1 ≤ c ∧ c ≤ 9) : (n + 1) * csz c ≤ 1024 ↔ n < nbk c := by
  obtain ⟨c1, c2, c3, _⟩ := csz_tab c h.1 h.2
  unfold nbk
  rw [if_neg (by omega)]
  exact (Nat.le_div_iff_mul_le (by omega)).symm
set_option maxRecDepth 100000 in
set_option maxHeartbeats 1000000 in
theorem xblocks8 (c : Int) : Calls Tryz.prog 96 #[.int .i64 c] w fun e w' => e = .returned (.int .i64 (nbkZ c)) ∧ w' = w := by
  have hs := fun W => xsize8 (w := W) c
  unfold nbkZ
  unfold cszZ at hs
  by_cases h : 1 ≤ c ∧ c ≤ 9
  · rw [if_pos h]
    rw [if_pos h] at hs
    obtain ⟨k, rfl⟩ : ∃ k : Nat, c = k := ⟨c.toNat, by omega⟩
    rw [Int.toNat_natCast] at hs ⊢
    obtain ⟨c1, c2, c3, c4, c5, _⟩ := csz_tab k (by omega) (by omega)
    have HI := Lib.hid (fun n => nbk_iff k n (by omega))
    have b0 : decide ((0 : Int) < csz k) = true := by simp; omega
    have b0' : decide (0 < csz k) = true := by simp; omega
    generalize nbk k = N at *
    generalize csz k = s at *
    clear h
    go_enter Tryz.func96, Tryz.ntmps96
    go_wp2_with fail
    go_loop [3] (fun i => ∃ j : Nat, j ≤ N ∧ i = .int .i64 j) (fun i => N - (intOf i).toNat)
    case atStart => exact ⟨0, Nat.zero_le _, rfl⟩
    case round =>
      obtain ⟨j, hj, rfl⟩ := hrel
      have w1 : IntKind.i64.wrap ((j : Int) + 1) = (j : Int) + 1 := IntWalk.i64_in _ (by omega)
      have hle : (j + 1) * s ≤ 33 * 512 := Nat.mul_le_mul (by omega) c3
      have w2 : IntKind.i64.wrap (((j : Int) + 1) * s) = (((j + 1) * s : Nat) : Int) := by
        rw [Int.natCast_mul, Int.natCast_add]
        exact IntWalk.i64_in _ (by
          have : (((j + 1) * s : Nat) : Int) = ((j : Int) + 1) * s := by rw [Int.natCast_mul, Int.natCast_add]; rfl
          omega)
      have hi := HI.out j
      generalize (j + 1) * s = v at *
      by_cases hlt : j < N
      · have b1 : decide ((v : Int) ≤ 1024) = true := by simp; omega
        have b1' : decide (v ≤ 1024) = true := by simp; omega
        clear hi hle
        go_wp2_with fail
        with_reducible refine (hs _).mono ?_
        rintro e w' ⟨rfl, rfl⟩
        go_wp2_with fail
        with_reducible refine (hs _).mono ?_
        rintro e w' ⟨rfl, rfl⟩
        go_wp2_with fail
        go_round
        case rel => exact ⟨j + 1, by omega, by go_num⟩
        case measure => simp [intOf]; omega
      · obtain rfl : j = N := by omega
        have b1 : decide ((v : Int) ≤ 1024) = false := by simp; omega
        have b1' : decide (v ≤ 1024) = false := by simp; omega
        clear hi hle
        go_wp2_with fail
        with_reducible refine (hs _).mono ?_
        rintro e w' ⟨rfl, rfl⟩
        go_wp2_with fail
        with_reducible refine (hs _).mono ?_
        rintro e w' ⟨rfl, rfl⟩
        go_wp2_with fail
        go_ret
        exact ⟨rfl, rfl⟩
  · rw [if_neg h]
    rw [if_neg h] at hs
    clear h
    go_enter Tryz.func96, Tryz.ntmps96
    go_wp2_with fail
    go_loop [3] (fun i => i = .int .i64 0) (fun i => 1)
    case atStart => exact rfl
    case round =>
      subst hrel
      go_wp2_with fail
      with_reducible refine (hs _).mono ?_
      rintro e w' ⟨rfl, rfl⟩
      go_wp2_with fail
      go_ret
      exact ⟨rfl, rfl⟩
end
end Go.Proofs.YtkapkbiccppldaaGreatDoor

/- The document's layout: Right, Runs, Base, SlabAt, Slab. -/
namespace Go.Proofs.YtkapkbiccppldaaGreatDoor
set_option linter.unusedVariables false
set_option linter.unusedSimpArgs false
open Go.RowKit

section
variable {w : World}
set_option maxRecDepth 100000 in
theorem xright9 (a s : Nat) (h : Cfg a s) : Calls Tryz.prog 198 #[.agg #[.int .i64 a, .int .i64 s]] w fun e w' => e = .returned (.bool true) ∧ Fr [] w w' := by
  obtain ⟨a1, a2, s1, s2, s3⟩ := h
  have b1 : decide ((7 : Int) ≤ a) = true := by simp; omega
  have b1' : decide (7 ≤ a) = true := by simp; omega
  have b2 : decide ((a : Int) ≤ 64) = true := by simp; omega
  have b2' : decide (a ≤ 64) = true := by simp; omega
  have b3 : (((s : Int) % 2) == 0) = true := by simp; omega
  have w1 : IntKind.i64.wrap (32 * (a : Int)) = 32 * (a : Int) := IntWalk.i64_in _ (by omega)
  have b4 : decide (32 * (a : Int) ≤ s) = true := by simp; omega
  have b5 : decide ((s : Int) ≤ 8192) = true := by simp; omega
  have b5' : decide (s ≤ 8192) = true := by simp; omega
  have B0 := Blk.new w 25 #[.int .i64 a, .int .i64 s]
  (have d0 := B0.cell 0; have d1 := B0.cell 1; simp at d0 d1)
  have g1 : (0 : Int) ≤ s := by omega
  have g2 : (s : Int) ≤ 8192 := by omega
  clear s1 s2 B0
  go_enter Tryz.func198, Tryz.ntmps198
  go_wp2_with fail
  go_ret
  exact ⟨rfl, (Fr.refl [] w).alloc _⟩
/-- The document's parts of an arena but for the last one. -/
def rrun3 (a : Nat) : List Rn := [(0, 8, 1), (8, 120, 2), (128, 16 * a, 3)]
def rrun4 (a s : Nat) : List Rn := rrun3 a ++ [(128 + 16 * a, 4 * s, 4)]
def rpad (a s : Nat) : Nat := lbase a s - (128 + 16 * a + 4 * s)
def rrun5 (a s : Nat) : List Rn := if 0 < rpad a s then rrun4 a s ++ [(128 + 16 * a + 4 * s, rpad a s, 8)] else rrun4 a s
def rruns (a s : Nat) : List Rn := rrun5 a s ++ [(lbase a s, 1024 * a, 7)]
theorem OwnR.made {base g : Nat} {l : List Rn} {n : Nat} (hn : l.length = n) (hb : base ≤ g) (h : Blk w g 98 (rCells l).toArray) (hl : n ≤ 1048576) : OwnR w base (.slice (some ⟨g, 0, none⟩) n n) l := by
  subst hn
  refine ⟨by rw [rCells_len]; omega, .inr ⟨g, l.length, (rCells l).toArray, rfl, hb, h, Nat.le_refl _, by unfold maxLen; omega, by simp [rCells_len]; omega, ?_⟩⟩
  simp only [List.toList_toArray]
  exact List.take_of_length_le (by rw [rCells_len]; omega)
theorem ownR_base {w : World} {base base' : Nat} {v : Value} {l : List Rn} (hb : base ≤ base') (h : OwnR w base' v l) : OwnR w base v l := by
  obtain ⟨h1, h2⟩ := h
  refine ⟨h1, h2.imp id ?_⟩
  rintro ⟨g, cap, cs, e, hg, r⟩
  exact ⟨g, cap, cs, e, by omega, r⟩
theorem Blk.new2 (w : World) (o : Obj) (t : TypeId) (cs : Array Value) : Blk ((w.alloc o).alloc (.cells cs t)) (w.heap.size + 1) t cs := by
  have := Blk.new (w.alloc o) t cs
  rwa [World.size_alloc] at this
theorem own_box {w w' : World} {base n size : Nat} {e : TypeId} {v : Value} {xs : List Value} (h : w.ownsRow base e size v n xs) (hg : w.grownBy w' v.ownBlock) {b : Nat} {t : TypeId} {cs : Array Value} (hb : Blk w b t cs) (hlt : b < base) : Blk w' b t cs := by
  refine (hg.block b hb.lt (fun e' => ?_)).trans hb
  have := (h.lt b e'.symm).1
  omega
theorem wpList_appR2 {w : World} {ops : Array Oper} {rest : List Oper} {o : Oper} {a : Act} {Q : Exit → Act → World → Prop} (hgd : o.guard = none) (s x : Operand) (ho : o.op = .call { callee := .builtin .append, args := #[s, x], argTypes := #[62, 62] }) (hty : o.type = 62)
    (base : Nat) (v : Value) (l : List Rn) (hs : a.eval s = v) (hown : OwnR w base v l) (g : Nat) (r : Rn) (hx : a.eval x = .slice (some ⟨g, 0, none⟩) 1 1) (hg : Blk w g 98 #[.int .i64 r.1, .int .i64 r.2.1, .int .i64 r.2.2])
    (hl : l.length ≤ 1048576) (hbase : base ≤ w.heap.size)
    (h : ∀ v' w', OwnR w' base v' (l ++ [r]) → (∀ w0, Fr [] w0 w → w0.heap.size ≤ base → Fr [] w0 w') → (∀ b t cs, Blk w b t cs → b < base → Blk w' b t cs) → base ≤ w'.heap.size → wpList Tryz.prog ops Q rest (a.put o.dst v') w') : wpList Tryz.prog ops Q (o :: rest) a w :=
  wpList_appR hgd s x ho hty base v l hs hown g r hx hg hl hbase fun v' w' h1 h2 _ => h v' w' h1 (fun w0 hf hb => own_fr hown h2 hf hb) (fun b t cs hb hlt => own_box hown h2 hb hlt) (Nat.le_trans hbase h2.size)
set_option maxRecDepth 100000 in
set_option maxHeartbeats 4000000 in
theorem xruns9 (a s : Nat) (h : Cfg a s) : Calls Tryz.prog 121 #[.agg #[.int .i64 a, .int .i64 s]] w (RunsP w (rruns a s)) := by
  have hr := xright9 (w := w.alloc (.cells #[.int .i64 a, .int .i64 s] 25)) a s h
  obtain ⟨a1, a2, s1, s2, s3⟩ := h
  have hP : rpad a s ≤ 15 ∧ 128 + 16 * a + 4 * s + rpad a s = lbase a s ∧ (128 + 16 * a + 4 * s + rpad a s) % 16 = 0 := by unfold rpad lbase; omega
  have hmin : ∀ j, j < rpad a s → (128 + 16 * a + 4 * s + j) % 16 ≠ 0 := fun j hj => by unfold rpad lbase at hj; omega
  have h3 : (rCells (rrun3 a)) = [.int .i64 0, .int .i64 8, .int .i64 1, .int .i64 8, .int .i64 120, .int .i64 2, .int .i64 128, .int .i64 (16 * a : Nat), .int .i64 3] := rfl
  have hl4 : (rrun4 a s).length = 4 := rfl
  have HR4 := Lib.hid (show rrun4 a s = rrun3 a ++ [(128 + 16 * a, 4 * s, 4)] from rfl)
  have HR5 := Lib.hid (show rrun5 a s = if 0 < rpad a s then rrun4 a s ++ [(128 + 16 * a + 4 * s, rpad a s, 8)] else rrun4 a s from rfl)
  have HRR := Lib.hid (show rruns a s = rrun5 a s ++ [(lbase a s, 1024 * a, 7)] from rfl)
  have hl5 : (rrun5 a s).length ≤ 5 := by unfold rrun5; split <;> simp [hl4]
  have H3 := Lib.hid h3
  have HL3 : (rrun3 a).length = 3 := rfl
  have w1 : IntKind.i64.wrap (16 * (a : Int)) = ((16 * a : Nat) : Int) := by rw [IntWalk.i64_in _ (by omega)]; omega
  have w2 : IntKind.i64.wrap (128 + ((16 * a : Nat) : Int)) = ((128 + 16 * a : Nat) : Int) := by rw [IntWalk.i64_in _ (by omega)]; omega
  have w3 : IntKind.i64.wrap (4 * (s : Int)) = ((4 * s : Nat) : Int) := by rw [IntWalk.i64_in _ (by omega)]; omega
  have w4 : IntKind.i64.wrap (((128 + 16 * a : Nat) : Int) + ((4 * s : Nat) : Int)) = ((128 + 16 * a + 4 * s : Nat) : Int) := by rw [IntWalk.i64_in _ (by omega)]; omega
  have w5 : IntKind.i64.wrap (1024 * (a : Int)) = ((1024 * a : Nat) : Int) := by rw [IntWalk.i64_in _ (by omega)]; omega
  have w6 : IntKind.i64.wrap (((128 + 16 * a + 4 * s : Nat) : Int) + ((rpad a s : Nat) : Int)) = ((lbase a s : Nat) : Int) := by rw [IntWalk.i64_in _ (by omega)]; omega
  have hz4 : 128 + 16 * a + 4 * s ≤ 1048576 := by omega
  generalize rruns a s = RR at *
  generalize rrun5 a s = R5 at *
  generalize rrun4 a s = R4 at *
  generalize rrun3 a = R3 at *
  generalize lbase a s = b at *
  generalize rpad a s = P at *
  generalize 128 + 16 * a + 4 * s = z at *
  generalize 128 + 16 * a = y at *
  generalize 16 * a = x at *
  generalize 4 * s = v at *
  generalize 1024 * a = u at *
  have B0 := Lib.hid (Blk.new w 25 #[.int .i64 a, .int .i64 s])
  clear a1 a2 s1 s2 s3 h3
  go_enter Tryz.func121, Tryz.ntmps121
  (have d0 := B0.out.cell 0; have d1 := B0.out.cell 1; simp at d0 d1)
  go_wp2_with fail
  with_reducible refine hr.mono ?_
  rintro e w1 ⟨rfl, f1⟩
  have B1 := Lib.hid (B0.out.fr f1 (by simp))
  have F1 := Lib.hid (((Fr.refl [] w).alloc (.cells #[.int .i64 a, .int .i64 s] 25)).trans f1)
  have hs1 : w.heap.size + 1 ≤ w1.heap.size := by have := f1.size; simp at this; omega
  clear f1 hr
  clear d0 d1
  (have d0 := B1.out.cell 0; have d1 := B1.out.cell 1; simp at d0 d1)
  have hb0 := fun o => (B1.out.alloc o).cell 0
  have hb1 := fun o => (B1.out.alloc o).cell 1
  simp at hb0 hb1
  have hO3 : ∀ (cs : Array Value), cs = (rCells R3).toArray → OwnR (w1.alloc (.cells cs 98)) (w.heap.size + 1) (.slice (some ⟨w1.heap.size, 0, none⟩) 3 3) R3 := fun cs e => OwnR.made HL3 hs1 (by rw [e]; exact Blk.new _ _ _) (by decide)
  go_wp2_with (at_builtin; refine wpList_appR2 rfl _ _ rfl rfl (w.heap.size + 1) _ R3 rfl (World.ownsRow.alloc (hO3 _ (by rw [H3.out])) _) _ (y, v, 4) rfl (Blk.new2 _ _ _ _) (by omega) (by simp; omega) ?_; intro v1 W1 hO1 hFx hBx hs2; have F2 := Lib.hid (hFx _ ((F1.out.alloc _).alloc _) (Nat.le_succ _)); have B2 := Lib.hid (hBx _ _ _ ((B1.out.alloc _).alloc _) (Nat.lt_succ_self _)); have HO1 := Lib.hid hO1; clear hFx hBx hO1; have e0 := B2.out.cell 0; have e1 := B2.out.cell 1; simp at e0 e1)
  clear hb0 hb1
  go_loop [5] (fun v => ∃ j : Nat, j ≤ P ∧ v = .int .i64 j) (fun v => 100 - (intOf v).toNat)
  case atStart => exact ⟨0, Nat.zero_le _, rfl⟩
  case round =>
    obtain ⟨j, hj, rfl⟩ := hrel
    have u1 : IntKind.i64.wrap ((z : Int) + j) = ((z + j : Nat) : Int) := by rw [IntWalk.i64_in _ (by omega)]; omega
    have w7 : IntKind.i64.wrap ((j : Int) + 1) = (j : Int) + 1 := IntWalk.i64_in _ (by omega)
    by_cases hlt : j < P
    · have hm := hmin j hlt
      have c1 : ((((z + j : Nat) : Int) % 16) != 0) = true := by simp; omega
      have g1 : (0 : Int) ≤ ((z + j : Nat) : Int) := by omega
      have g2 : ((z + j : Nat) : Int) ≤ 2000000 := by omega
      have hj15 : j < 16 := by omega
      clear hm hmin hP
      generalize z + j = zj at *
      go_wp2_with fail
      go_round
      case rel => exact ⟨j + 1, by omega, by go_num⟩
      case measure => simp [intOf]; omega
    · obtain rfl : j = P := by omega
      have c1 : ((((z + j : Nat) : Int) % 16) != 0) = false := by simp; omega
      have g1 : (0 : Int) ≤ ((z + j : Nat) : Int) := by omega
      have g2 : ((z + j : Nat) : Int) ≤ 2000000 := by omega
      rw [hP.2.1] at c1 g1 g2 u1
      clear hmin hP hj u1
      by_cases h0 : 0 < j
      · have c2 : decide ((0 : Int) < j) = true := by simp; omega
        have c2' : decide (0 < j) = true := by simp; omega
        have hr5 := HR5.out
        rw [if_pos h0] at hr5
        have HR5a := Lib.hid hr5
        clear h0 hr5 HR5
        have hOa : OwnR W1 (w.heap.size + 1) v1 R4 := by rw [HR4.out]; exact HO1.out
        have HOa := Lib.hid hOa
        have tok : True := trivial
        clear hOa
        go_wp2_with (first | (at_builtin; have _t := tok; refine wpList_appR2 rfl _ _ rfl rfl (w.heap.size + 1) _ R4 rfl (World.ownsRow.alloc HOa.out _) _ (z, j, 8) rfl (Blk.new _ _ _) (by omega) (by simp; omega) ?_; intro v2 W2 hO2 hFx hBx hs3; have F3 := Lib.hid (hFx _ (F2.out.alloc _) (Nat.le_succ _)); have B3 := Lib.hid (hBx _ _ _ (B2.out.alloc _) (Nat.lt_succ_self _)); have HO2 := Lib.hid hO2; clear hFx hBx hO2 tok _t e0 e1; have e0 := B3.out.cell 0; have e1 := B3.out.cell 1; simp at e0 e1; have tok2 : True := trivial) | (at_builtin; have _t := tok2; refine wpList_appR2 rfl _ _ rfl rfl (w.heap.size + 1) _ R5 rfl (World.ownsRow.alloc (by rw [HR5a.out]; exact HO2.out) _) _ (b, u, 7) rfl (Blk.new _ _ _) (by omega) (by simp; omega) ?_; intro v3 W3 hO3 hFx hBx hs4; have F4 := Lib.hid (hFx _ (F3.out.alloc _) (Nat.le_succ _)); have HO3 := Lib.hid hO3; clear hFx hBx hO3 tok2 _t) | fail)
        go_ret
        exact ⟨_, rfl, by rw [HRR.out]; exact ownR_base (Nat.le_succ _) HO3.out, F4.out⟩
      · have c2 : decide ((0 : Int) < j) = false := by simp; omega
        have c2' : decide (0 < j) = false := by simp; omega
        have hr5 := HR5.out
        rw [if_neg h0] at hr5
        have HR5a := Lib.hid hr5
        clear h0 hr5 HR5
        have hOa : OwnR W1 (w.heap.size + 1) v1 R5 := by rw [HR5a.out, HR4.out]; exact HO1.out
        have HOa := Lib.hid hOa
        clear hOa
        go_wp2_with (at_builtin; refine wpList_appR2 rfl _ _ rfl rfl (w.heap.size + 1) _ R5 rfl (World.ownsRow.alloc HOa.out _) _ (b, u, 7) rfl (Blk.new _ _ _) (by omega) (by simp; omega) ?_; intro v3 W3 hO3 hFx hBx hs4; have F4 := Lib.hid (hFx _ (F2.out.alloc _) (Nat.le_succ _)); have HO3 := Lib.hid hO3; clear hFx hBx hO3)
        go_ret
        exact ⟨_, rfl, by rw [HRR.out]; exact ownR_base (Nat.le_succ _) HO3.out, F4.out⟩
end
end Go.Proofs.YtkapkbiccppldaaGreatDoor

/- The document's layout: Base, SlabAt, Slab. -/
namespace Go.Proofs.YtkapkbiccppldaaGreatDoor
set_option linter.unusedVariables false
set_option linter.unusedSimpArgs false
open Go.RowKit

theorem rruns_last (a s : Nat) : ∃ n : Nat, (rruns a s).length = n + 1 ∧ n ≤ 5 ∧ (rruns a s)[n]? = some (lbase a s, 1024 * a, 7) := by
  refine ⟨(rrun5 a s).length, by simp [rruns], ?_, by simp [rruns]⟩
  unfold rrun5
  split <;> simp [rrun4, rrun3]
section
variable {w : World}
set_option maxRecDepth 100000 in
theorem xbase9 (a s : Nat) (h : Cfg a s) : Calls Tryz.prog 199 #[.agg #[.int .i64 a, .int .i64 s]] w fun e w' => e = .returned (.int .i64 (lbase a s)) ∧ Fr [] w w' := by
  have hr := xruns9 (w := w.alloc (.cells #[.int .i64 a, .int .i64 s] 25)) a s h
  have F0 := Lib.hid ((Fr.refl [] w).alloc (.cells #[.int .i64 a, .int .i64 s] 25))
  obtain ⟨n, hn, hn5, hl⟩ := rruns_last a s
  generalize rruns a s = RR at *
  generalize lbase a s = b at *
  have B0 := Lib.hid (Blk.new w 25 #[.int .i64 a, .int .i64 s])
  go_enter Tryz.func199, Tryz.ntmps199
  (have d0 := B0.out.cell 0; have d1 := B0.out.cell 1; simp at d0 d1)
  go_wp2_with fail
  with_reducible refine hr.mono ?_
  rintro e w1 ⟨v, rfl, hO, f1⟩
  have F1 := Lib.hid (F0.out.trans f1)
  obtain ⟨g, cap, hv, _, _⟩ := World.ownsRow.form hO (by omega)
  have hcells := World.ownsRow.cells hO (g := g) (by rw [hv]; rfl)
  have hcap : RR.length ≤ cap := by
    obtain ⟨h1, ⟨h2, _⟩ | ⟨g', cap', cur, h2, _, _, hnc, _⟩⟩ := hO
    · rw [hv] at h2; cases h2
    · rw [hv] at h2; injection h2 with _ _ h3
      omega
  obtain ⟨e1, _, _⟩ := rCells_get RR n _ hl
  have hadd : ∀ j, (⟨g, 0, none⟩ : Addr).add j = ⟨g, j, none⟩ := fun j => by unfold Addr.add; split <;> simp_all
  have q1 := hcells _ _ e1
  rw [hadd, Nat.mul_comm] at q1
  rw [hn] at hv hcap
  subst hv
  have b1 : ((((n + 1 : Nat) : Int)) == 0) = false := by simp; omega
  have w1' : IntKind.i64.wrap (((n + 1 : Nat) : Int) - 1) = (n : Int) := by rw [IntWalk.i64_in _ (by omega)]; omega
  clear hr hO f1 hcells e1 hadd hl hn h
  have hi1 : (n : Int) < ((n + 1 : Nat) : Int) := by omega
  generalize hN : n + 1 = N at *
  have b1' : (N = 0) = False := by simp; omega
  go_wp2_with fail
  go_ret
  exact ⟨rfl, F1.out⟩
set_option maxRecDepth 100000 in
theorem xslabat9 (a s i : Nat) (h : Cfg a s) (hi : i < a) : Calls Tryz.prog 97 #[.agg #[.int .i64 a, .int .i64 s], .int .i64 i] w fun e w' => e = .returned (.int .i64 (lbase a s + 1024 * i : Nat)) ∧ Fr [] w w' := by
  have hr := Lib.hid (fun W => xright9 (w := W) a s h)
  have hb := Lib.hid (fun W => xbase9 (w := W) a s h)
  have F0 := Lib.hid ((Fr.refl [] w).alloc (.cells #[.int .i64 a, .int .i64 s] 25))
  have B0 := Lib.hid (Blk.new w 25 #[.int .i64 a, .int .i64 s])
  have hl := lbase_le a s h
  have ha := h.a2
  have b1 : decide ((i : Int) < 0) = false := by simp
  have b2 : decide ((a : Int) ≤ i) = false := by simp; omega
  have b2' : decide (a ≤ i) = false := by simp; omega
  have w1 : IntKind.i64.wrap (1024 * (i : Int)) = 1024 * (i : Int) := IntWalk.i64_in _ (by omega)
  have w2 : IntKind.i64.wrap ((lbase a s : Int) + 1024 * (i : Int)) = ((lbase a s + 1024 * i : Nat) : Int) := by rw [IntWalk.i64_in _ (by omega)]; omega
  generalize lbase a s + 1024 * i = r at *
  generalize lbase a s = b at *
  clear hl ha hi h
  go_enter Tryz.func97, Tryz.ntmps97
  (have d0 := B0.out.cell 0; have d1 := B0.out.cell 1; simp at d0 d1)
  go_wp2_with fail
  with_reducible refine (hr.out _).mono ?_
  rintro e w1 ⟨rfl, f⟩
  have B1 := Lib.hid (B0.out.fr f (by simp))
  have F1 := Lib.hid (F0.out.trans f)
  clear f
  clear d0 d1
  (have d0 := B1.out.cell 0; have d1 := B1.out.cell 1; simp at d0 d1)
  go_wp2_with fail
  with_reducible refine (hb.out _).mono ?_
  rintro e w2 ⟨rfl, f⟩
  have F2 := Lib.hid (F1.out.trans f)
  clear f
  go_wp2_with fail
  go_ret
  exact ⟨rfl, F2.out⟩
def lsv (b z : Nat) (x : Int) : Array Value := if (b : Int) ≤ x ∧ x < z then #[.int .i64 (((x.toNat - b) / 1024 : Nat)), .bool true] else #[.int .i64 0, .bool false]
set_option maxRecDepth 100000 in
set_option maxHeartbeats 1000000 in
theorem xslab9 (a s : Nat) (h : Cfg a s) (x : Int) : Calls Tryz.prog 101 #[.agg #[.int .i64 a, .int .i64 s], .int .i64 x] w fun e w' => e = .returned (.tuple (lsv (lbase a s) (lsize a s) x)) ∧ Fr [] w w' := by
  have hr := Lib.hid (fun W => xright9 (w := W) a s h)
  have hs := Lib.hid (fun W i hi => xslabat9 (w := W) a s i h hi)
  have F0 := Lib.hid ((Fr.refl [] w).alloc (.cells #[.int .i64 a, .int .i64 s] 25))
  have B0 := Lib.hid (Blk.new w 25 #[.int .i64 a, .int .i64 s])
  have hl := lbase_le a s h
  have ha := h.a2
  have hz : lsize a s = lbase a s + 1024 * a := rfl
  generalize lsize a s = z at *
  generalize lbase a s = b at *
  generalize hV : lsv b z x = V at *
  have HV := Lib.hid hV
  clear h hV
  go_enter Tryz.func101, Tryz.ntmps101
  (have d0 := B0.out.cell 0; have d1 := B0.out.cell 1; simp at d0 d1)
  go_wp2_with fail
  generalize w.alloc (.cells #[.int .i64 a, .int .i64 s] 25) = w0 at *
  generalize w.heap.size = g at *
  clear d0 d1
  go_loopw [6] (fun i W => ∃ j : Nat, j ≤ a ∧ i = .int .i64 j ∧ Fr [] w W ∧ Blk W g 25 #[.int .i64 a, .int .i64 s] ∧ (x < b ∨ (b : Int) + 1024 * j ≤ x)) (fun i _ => 100 - (intOf i).toNat)
  case atStart => exact ⟨0, by omega, rfl, F0.out, B0.out, by omega⟩
  case round =>
    clear F0 B0
    obtain ⟨j, hj, rfl, F, B, hx⟩ := hrel
    have F1 := Lib.hid F
    have B1 := Lib.hid B
    clear F B
    (have d0 := B1.out.cell 0; have d1 := B1.out.cell 1; simp at d0 d1)
    by_cases hlt : j < a
    · have b1 : decide ((j : Int) < a) = true := by simp; omega
      have b1' : decide (j < a) = true := by simp; omega
      have HS := Lib.hid (fun W => hs.out W j hlt)
      have w1 : IntKind.i64.wrap ((j : Int) + 1) = (j : Int) + 1 := IntWalk.i64_in _ (by omega)
      have w2 : IntKind.i64.wrap (((b + 1024 * j : Nat) : Int) + 1024) = ((b + 1024 * j : Nat) : Int) + 1024 := IntWalk.i64_in _ (by omega)
      by_cases h1 : ((b + 1024 * j : Nat) : Int) ≤ x
      · have b2 : decide (((b + 1024 * j : Nat) : Int) ≤ x) = true := by simp; omega
        by_cases h2 : x < ((b + 1024 * j : Nat) : Int) + 1024
        · have b3 : decide (x < ((b + 1024 * j : Nat) : Int) + 1024) = true := by simp; omega
          have hV : lsv b z x = #[.int .i64 j, .bool true] := by
            unfold lsv
            rw [if_pos (by omega), show (x.toNat - b) / 1024 = j by omega]
          rw [HV.out] at hV
          generalize b + 1024 * j = y at *
          clear hlt h1 h2 hx hj hs hz hl ha
          go_wp2_with fail
          with_reducible refine (hr.out _).mono ?_
          rintro e w1 ⟨rfl, f⟩
          have B2 := Lib.hid (B1.out.fr f (by simp))
          have F2 := Lib.hid (F1.out.trans f)
          clear f
          clear d0 d1
          (have d0 := B2.out.cell 0; have d1 := B2.out.cell 1; simp at d0 d1)
          go_wp2_with fail
          with_reducible refine (HS.out _).mono ?_
          rintro e w2 ⟨rfl, f⟩
          have B3 := Lib.hid (B2.out.fr f (by simp))
          have F3 := Lib.hid (F2.out.trans f)
          clear f
          clear d0 d1
          (have d0 := B3.out.cell 0; have d1 := B3.out.cell 1; simp at d0 d1)
          go_wp2_with fail
          with_reducible refine (HS.out _).mono ?_
          rintro e w3 ⟨rfl, f⟩
          have F4 := Lib.hid (F3.out.trans f)
          clear f
          clear d0 d1
          go_wp2_with fail
          go_ret2
          exact ⟨by rw [hV]; rfl, F4.out⟩
        · have b3 : decide (x < ((b + 1024 * j : Nat) : Int) + 1024) = false := by simp; omega
          have hx' : x < b ∨ (b : Int) + 1024 * (j + 1 : Nat) ≤ x := by omega
          generalize b + 1024 * j = y at *
          have hj99 : j < 100 := by omega
          clear h1 h2 hx hs hz hl
          go_wp2_with fail
          with_reducible refine (hr.out _).mono ?_
          rintro e w1 ⟨rfl, f⟩
          have B2 := Lib.hid (B1.out.fr f (by simp))
          have F2 := Lib.hid (F1.out.trans f)
          clear f
          clear d0 d1
          (have d0 := B2.out.cell 0; have d1 := B2.out.cell 1; simp at d0 d1)
          go_wp2_with fail
          with_reducible refine (HS.out _).mono ?_
          rintro e w2 ⟨rfl, f⟩
          have B3 := Lib.hid (B2.out.fr f (by simp))
          have F3 := Lib.hid (F2.out.trans f)
          clear f
          clear d0 d1
          (have d0 := B3.out.cell 0; have d1 := B3.out.cell 1; simp at d0 d1)
          go_wp2_with fail
          with_reducible refine (HS.out _).mono ?_
          rintro e w3 ⟨rfl, f⟩
          have B4 := Lib.hid (B3.out.fr f (by simp))
          have F4 := Lib.hid (F3.out.trans f)
          clear f
          clear d0 d1
          go_wp2_with fail
          go_roundw
          case rel => exact ⟨j + 1, by omega, by go_num, F4.out, B4.out, hx'⟩
          case measure => simp [intOf]; omega
      · have b2 : decide (((b + 1024 * j : Nat) : Int) ≤ x) = false := by simp; omega
        have hx' : x < b ∨ (b : Int) + 1024 * (j + 1 : Nat) ≤ x := by omega
        generalize b + 1024 * j = y at *
        have hj99 : j < 100 := by omega
        clear h1 hx hs hz hl
        go_wp2_with fail
        with_reducible refine (hr.out _).mono ?_
        rintro e w1 ⟨rfl, f⟩
        have B2 := Lib.hid (B1.out.fr f (by simp))
        have F2 := Lib.hid (F1.out.trans f)
        clear f
        clear d0 d1
        (have d0 := B2.out.cell 0; have d1 := B2.out.cell 1; simp at d0 d1)
        go_wp2_with fail
        with_reducible refine (HS.out _).mono ?_
        rintro e w2 ⟨rfl, f⟩
        have B3 := Lib.hid (B2.out.fr f (by simp))
        have F3 := Lib.hid (F2.out.trans f)
        clear f
        clear d0 d1
        go_wp2_with fail
        go_roundw
        case rel => exact ⟨j + 1, by omega, by go_num, F3.out, B3.out, hx'⟩
        case measure => simp [intOf]; omega
    · obtain rfl : j = a := by omega
      have b1 : decide ((j : Int) < j) = false := by simp
      have b1' : decide (j < j) = false := by simp
      have hV : lsv b z x = #[.int .i64 0, .bool false] := by
        unfold lsv
        rw [if_neg (by omega)]
      rw [HV.out] at hV
      clear hx hs hz hl ha hlt hj
      go_wp2_with fail
      with_reducible refine (hr.out _).mono ?_
      rintro e w1 ⟨rfl, f⟩
      have B2 := Lib.hid (B1.out.fr f (by simp))
      have F2 := Lib.hid (F1.out.trans f)
      clear f
      clear d0 d1
      (have d0 := B2.out.cell 0; have d1 := B2.out.cell 1; simp at d0 d1)
      go_wp2_with fail
      go_ret2
      exact ⟨by rw [hV]; rfl, F2.out⟩
end
end Go.Proofs.YtkapkbiccppldaaGreatDoor

/- The document's slabs: Begin, Block. -/
namespace Go.Proofs.YtkapkbiccppldaaGreatDoor
set_option linter.unusedVariables false
set_option linter.unusedSimpArgs false
open Go.RowKit

theorem run_make_rw {P : Program} (t e : TypeId) (z : Value) (k bytes : Nat) (ht : P.underlying t = some (.slice e)) (hinfo : (P.info? e).map (fun i => (i.zero, i.size, i.bytes)) = some (some z, k, bytes))
    (kl kc : IntKind) (n : Nat) (hbytes : bytes * n ≤ 281474976710656) (h63 : n ≤ 9223372036854775807) (w : World) :
    (Instr.makeSlice t (.int kl (n : Int)) (.int kc (n : Int))).run P w = .ok (.slice (some ⟨w.heap.size, 0, none⟩) n n) (w.alloc (.cells (madeCells z.cells (n * k)) e)) := by
  obtain ⟨i, hi, hzz⟩ := Option.map_eq_some_iff.1 hinfo
  simp only [Prod.mk.injEq] at hzz
  obtain ⟨hz, hs, hb⟩ := hzz
  have hb' : (i.bytes : Int) * (n : Int) ≤ 281474976710656 := by
    have h : ((i.bytes * n : Nat) : Int) ≤ 281474976710656 := by rw [hb]; omega
    rwa [Int.natCast_mul] at h
  have hr := run_make (P := P) w t e i z ht hi hz kl kc n n (by omega) (Int.le_refl _) hb' (by omega)
  simp only [Int.toNat_natCast, hs] at hr
  exact hr
theorem made_sl (a : Nat) : madeCells #[.int .i64 0, .slice none 0 0, .slice none 0 0] (a * 3) = rsC a SS.zero (fun _ => (none, 0)) (fun _ => (none, 0)) := by
  refine rsC_ext a _ _ _ _ (by simp [madeCells]) (fun i r hi hr => ?_)
  have h : i * 3 + r < a * 3 := by omega
  have e : (i * 3 + r) % 3 = r := by omega
  simp only [madeCells, Array.getElem?_map, Array.getElem?_range, h, if_pos, Option.map_some, List.size_toArray, List.length_cons, List.length_nil, Nat.reduceAdd, e]
  rcases (by omega : r = 0 ∨ r = 1 ∨ r = 2) with rfl | rfl | rfl <;> rfl
theorem info_sl : (Tryz.prog.info? 56).map (fun i => (i.zero, i.size, i.bytes)) = some (some (.agg #[.int .i64 0, .slice none 0 0, .slice none 0 0]), 3, 56) := by kernel_rfl
/-- The document's slabs are made. -/
def R15New (w : World) (a s : Nat) (e : Ending) (w' : World) : Prop := ∃ p gl, e = .returned (.pointer (some ⟨p, 0, none⟩)) ∧ RS w' p gl a s [p, gl] SS.zero ∧ w.heap.size ≤ p ∧ w.heap.size ≤ gl ∧ Fr [] w w'
section
variable {w : World} {p gl a s : Nat} {B : List Nat} {S : SS}
theorem r15mk (w : World) (a s : Nat) (h : Cfg a s) (o : Obj) (cs : Array Value) (hcs : rsC a SS.zero (fun _ => (none, 0)) (fun _ => (none, 0)) = cs) :
    R15New w a s (.returned (.pointer (some ⟨w.heap.size + 1 + 1, 0, none⟩))) (((w.alloc o).alloc (.cells cs 56)).alloc (.cells #[.int .i64 a, .int .i64 s, .slice (some ⟨w.heap.size + 1, 0, none⟩) a a] 59)).drew := by
  have b0 := ((Blk.new (w.alloc o) 56 cs).alloc (.cells #[.int .i64 a, .int .i64 s, .slice (some ⟨w.heap.size + 1, 0, none⟩) a a] 59)).drew
  have b1 := (Blk.new ((w.alloc o).alloc (.cells cs 56)) 59 #[.int .i64 a, .int .i64 s, .slice (some ⟨w.heap.size + 1, 0, none⟩) a a]).drew
  rw [World.size_alloc] at b0
  rw [World.size_alloc, World.size_alloc] at b1
  subst hcs
  refine ⟨_, _, rfl, ⟨b1, ⟨_, _, b0, fun i hi => ⟨RowW.nil _ _ _ _, RowW.nil _ _ _ _⟩⟩, by simp, by simp, fun k hk => ?_, h⟩, by omega, by omega, ((((Fr.refl [] w).alloc _).alloc _).alloc _).drew⟩
  have l0 := b0.lt
  have l1 := b1.lt
  simp only [List.mem_cons, List.not_mem_nil, or_false] at hk
  rcases hk with rfl | rfl
  · exact l1
  · exact l0
set_option maxRecDepth 100000 in
theorem xbegin (w : World) (a s : Nat) (h : Cfg a s) : Calls Tryz.prog 16 #[.agg #[.int .i64 a, .int .i64 s]] w (R15New w a s) := by
  have ha := h.a2
  have hms : ∀ w, (Instr.makeSlice 57 (.int .i64 a) (.int .i64 a)).run Tryz.prog w = .ok (.slice (some ⟨w.heap.size, 0, none⟩) a a) (w.alloc (.cells (rsC a SS.zero (fun _ => (none, 0)) (fun _ => (none, 0))) 56)) := fun w => by
    rw [← made_sl a]
    exact run_make_rw 57 56 _ 3 56 Tryz.underlying57 info_sl .i64 .i64 a (by omega) (by omega) w
  generalize hcs : rsC a SS.zero (fun _ => (none, 0)) (fun _ => (none, 0)) = cs at *
  have HCS := Lib.hid hcs
  clear hcs
  have B0 := Lib.hid (Blk.new w 25 #[.int .i64 a, .int .i64 s])
  have F0 := Lib.hid ((Fr.refl [] w).alloc (.cells #[.int .i64 a, .int .i64 s] 25))
  go_enter Tryz.func16, Tryz.ntmps16
  (have d0 := B0.out.cell 0; have d1 := B0.out.cell 1; simp at d0 d1)
  go_wp2_with fail
  have hb1 := fun o => (B0.out.alloc o).cell 0
  have hb2 := fun o => (B0.out.alloc o).cell 1
  simp at hb1 hb2
  go_region
  all_goals
    go_wp2_with fail
    go_ret
    exact r15mk w a s h _ cs HCS.out
theorem RS.cls (h : RS w p gl a s B S) (i : Nat) (hi : i < a) : w.cell? ⟨gl, i * 3, none⟩ = some (.int .i64 (S.cls i)) := by
  obtain ⟨rf, rl, h1, h2⟩ := h.rows
  have := h1.cell (i * 3 + 0)
  rw [rsC_get a S rf rl i 0 hi (by decide)] at this
  exact this
set_option maxRecDepth 100000 in
set_option maxHeartbeats 2000000 in
theorem xblock (h : RS w p gl a s B S) (h9 : ∀ i, i < a → S.cls i ≤ 9) (x : Int) : Calls Tryz.prog 21 #[.pointer (some ⟨p, 0, none⟩), .int .i64 x] w fun e w' => e = .returned (.tuple #[.int .i64 (blkS a (lbase a s) S x).1, .int .i64 (blkS a (lbase a s) S x).2.1, .bool (blkS a (lbase a s) S x).2.2]) ∧ Fr [] w w' := by
  have hsl := xslab9 (w := w) a s h.cfg x
  have HS := Lib.hid (fun W i hi => xslabat9 (w := W) a s i h.cfg hi)
  have hl := lbase_le a s h.cfg
  have ha := h.cfg.a2
  have hz : lsize a s = lbase a s + 1024 * a := rfl
  have H0 := Lib.hid h
  unfold lsv at hsl
  unfold blkS
  rw [← hz]
  generalize lsize a s = z at *
  generalize lbase a s = b at *
  have d0 := h.st.cell 0
  have d1 := h.st.cell 1
  simp at d0 d1
  by_cases hx : (b : Int) ≤ x ∧ x < z
  · rw [if_pos hx] at hsl ⊢
    obtain ⟨X, rfl⟩ : ∃ X : Nat, x = X := ⟨x.toNat, by omega⟩
    rw [Int.toNat_natCast] at hsl ⊢
    have hi : (X - b) / 1024 < a := by omega
    have hX : X = b + 1024 * ((X - b) / 1024) + (X - b) % 1024 := by omega
    have ho : (X - b) % 1024 < 1024 := Nat.mod_lt _ (by decide)
    have hX2 : X ≤ 1048576 := by omega
    generalize (X - b) / 1024 = i at *
    generalize (X - b) % 1024 = o at *
    have hc9 := h9 i hi
    have hc := Lib.hid (fun W hW => RS.cls (w := W) (p := p) (gl := gl) (a := a) (s := s) (B := B) (S := S) hW i hi)
    have hb8 := Lib.hid (fun W => xblocks8 (w := W) (S.cls i))
    have hs8 := Lib.hid (fun W => xsize8 (w := W) (S.cls i))
    rw [nbkZ_nat _ hc9] at hb8
    rw [cszZ_nat _ hc9] at hs8
    have HSi := Lib.hid (fun W => HS.out W i hi)
    have hcs : S.cls i ≠ 0 → 0 < csz (S.cls i) ∧ csz (S.cls i) ≤ 512 ∧ nbk (S.cls i) ≤ 32 := fun h0 => by
      obtain ⟨c1, c2, c3, c4, c5, _⟩ := csz_tab (S.cls i) (by omega) hc9
      omega
    have hi2 : (0 : Int) ≤ i := by omega
    have hi3 : (i : Int) < a := by omega
    have hdm : o = csz (S.cls i) * (o / csz (S.cls i)) + o % csz (S.cls i) := (Nat.div_add_mod _ _).symm
    have hge : 0 < csz (S.cls i) → (csz (S.cls i) * nbk (S.cls i) ≤ o ↔ nbk (S.cls i) ≤ o / csz (S.cls i)) := fun h0 => by
      rw [Nat.le_div_iff_mul_le h0, Nat.mul_comm]
    have hov : o / csz (S.cls i) ≤ 1024 := Nat.le_trans (Nat.div_le_self _ _) (by omega)
    generalize hcl : S.cls i = c at *
    have hcc : (c = 0 ∧ ((c : Int) == 0) = true) ∨ (c ≠ 0 ∧ ((c : Int) == 0) = false) := by
      by_cases h0 : c = 0
      · exact .inl ⟨h0, by simp [h0]⟩
      · exact .inr ⟨h0, by simp; exact h0⟩
    have hq : ∀ n : Nat, n ≤ 1048576 → IntKind.i64.wrap (n : Int) = (n : Int) := fun n hn => IntWalk.i64_in _ (by omega)
    clear h h9 hx HS hz ha hl hcl hi hc9
    rcases hcc with ⟨hc0, b0⟩ | ⟨hc0, b0⟩
    · rw [if_pos (.inl hc0)]
      clear hc0 hcs hX ho hX2 hdm hge hov hq
      go_enter Tryz.func21, Tryz.ntmps21
      go_wp2_with fail
      with_reducible refine hsl.mono ?_
      rintro e w1 ⟨rfl, f1⟩
      have H1 := Lib.hid (H0.out.fr0 f1)
      have F1 := Lib.hid f1
      clear f1 hsl d0 d1
      have d2 := H1.out.st.cell 2
      have dc := hc.out _ H1.out
      simp at d2
      go_wp2_with fail
      go_returns
      exact ⟨rfl, F1.out⟩
    · obtain ⟨s0, s1, s2⟩ := hcs hc0
      have hge := hge s0
      have r1 : ((o : Int)).tdiv (csz c) = ((o / csz c : Nat) : Int) := by rw [Int.tdiv_eq_ediv_of_nonneg (by omega)]; exact (Int.natCast_ediv o (csz c)).symm
      have r2 : ((o : Int)) / (csz c : Int) = ((o / csz c : Nat) : Int) := (Int.natCast_ediv o (csz c)).symm
      have w1 := hq (o / csz c) (by omega)
      have w0 : IntKind.i64.wrap ((X : Int) - ((b + 1024 * i : Nat) : Int)) = (o : Int) := by
        rw [IntWalk.i64_in _ (by omega)]; omega
      have b3 : ((csz c : Int) == 0) = false := by simp; omega
      have b4 : (csz c = 0) = False := by simp; omega
      by_cases hr : csz c * nbk c ≤ o
      · rw [if_pos (.inr hr)]
        have b1 : decide ((nbk c : Int) ≤ ((o / csz c : Nat) : Int)) = true := by
          have := hge.1 hr
          simp only [decide_eq_true_eq]; omega
        have b1' : decide (nbk c ≤ o / csz c) = true := by
          have := hge.1 hr
          simp only [decide_eq_true_eq]; exact this
        generalize o / csz c = k at *
        generalize b + 1024 * i = y at *
        generalize csz c = n at *
        generalize nbk c = N at *
        clear hc0 hcs hX ho hX2 hdm hge hov hq hr s0 s1 s2
        go_enter Tryz.func21, Tryz.ntmps21
        go_wp2_with fail
        with_reducible refine hsl.mono ?_
        rintro e w1 ⟨rfl, f1⟩
        have H1 := Lib.hid (H0.out.fr0 f1)
        have F1 := Lib.hid f1
        clear f1 hsl d0 d1
        have d2 := H1.out.st.cell 2
        have d0 := H1.out.st.cell 0
        have d1 := H1.out.st.cell 1
        have dc := hc.out _ H1.out
        simp at d0 d1 d2
        go_wp2_with fail
        with_reducible refine (hs8.out _).mono ?_
        rintro e w2 ⟨rfl, rfl⟩
        go_wp2_with fail
        with_reducible refine (HSi.out _).mono ?_
        rintro e w3 ⟨rfl, f3⟩
        have H3 := Lib.hid (H1.out.fr0 f3)
        have F3 := Lib.hid (F1.out.trans f3)
        clear f3 d0 d1 d2 dc
        have d2 := H3.out.st.cell 2
        have d0 := H3.out.st.cell 0
        have d1 := H3.out.st.cell 1
        have dc := hc.out _ H3.out
        simp at d0 d1 d2
        go_wp2_with fail
        with_reducible refine (hb8.out _).mono ?_
        rintro e w4 ⟨rfl, rfl⟩
        go_wp2_with fail
        go_returns
        exact ⟨rfl, F3.out⟩
      · rw [if_neg (by rintro (h | h) <;> omega)]
        have b1 : decide ((nbk c : Int) ≤ ((o / csz c : Nat) : Int)) = false := by
          have := mt hge.2 hr
          simp only [decide_eq_false_iff_not]; omega
        have b1' : decide (nbk c ≤ o / csz c) = false := by
          have := mt hge.2 hr
          simp only [decide_eq_false_iff_not]; exact this
        have w2 : IntKind.i64.wrap (((o / csz c : Nat) : Int) * (csz c : Int)) = ((csz c * (o / csz c) : Nat) : Int) := by
          rw [Nat.mul_comm, Int.natCast_mul]
          exact (show IntKind.i64.wrap (((o / csz c * csz c : Nat)) : Int) = _ from hq _ (by rw [Nat.mul_comm]; omega)) |>.trans (by rw [Int.natCast_mul]) |> fun e => by rw [← Int.natCast_mul] at *; exact e
        have w3 : IntKind.i64.wrap (((b + 1024 * i : Nat) : Int) + ((csz c * (o / csz c) : Nat) : Int)) = ((X - o % csz c : Nat) : Int) := by
          rw [IntWalk.i64_in _ (by omega)]; omega
        generalize X - o % csz c = Y at *
        generalize csz c * (o / csz c) = Z at *
        generalize o / csz c = k at *
        generalize b + 1024 * i = y at *
        generalize csz c = n at *
        generalize nbk c = N at *
        clear hc0 hcs hX ho hX2 hdm hge hov hq hr s0 s1 s2
        go_enter Tryz.func21, Tryz.ntmps21
        go_wp2_with fail
        with_reducible refine hsl.mono ?_
        rintro e w1 ⟨rfl, f1⟩
        have H1 := Lib.hid (H0.out.fr0 f1)
        have F1 := Lib.hid f1
        clear f1 hsl d0 d1
        have d2 := H1.out.st.cell 2
        have d0 := H1.out.st.cell 0
        have d1 := H1.out.st.cell 1
        have dc := hc.out _ H1.out
        simp at d0 d1 d2
        go_wp2_with fail
        with_reducible refine (hs8.out _).mono ?_
        rintro e w2 ⟨rfl, rfl⟩
        go_wp2_with fail
        with_reducible refine (HSi.out _).mono ?_
        rintro e w3 ⟨rfl, f3⟩
        have H3 := Lib.hid (H1.out.fr0 f3)
        have F3 := Lib.hid (F1.out.trans f3)
        clear f3 d0 d1 d2 dc
        have d2 := H3.out.st.cell 2
        have d0 := H3.out.st.cell 0
        have d1 := H3.out.st.cell 1
        have dc := hc.out _ H3.out
        simp at d0 d1 d2
        go_wp2_with fail
        with_reducible refine (hb8.out _).mono ?_
        rintro e w4 ⟨rfl, rfl⟩
        go_wp2_with fail
        with_reducible refine (HSi.out _).mono ?_
        rintro e w5 ⟨rfl, f5⟩
        have F5 := Lib.hid (F3.out.trans f5)
        clear f5 d0 d1 d2 dc
        go_wp2_with fail
        go_returns
        exact ⟨rfl, F5.out⟩
  · rw [if_neg hx] at hsl ⊢
    clear h hx h9 hz ha hl
    go_enter Tryz.func21, Tryz.ntmps21
    go_wp2_with fail
    with_reducible refine hsl.mono ?_
    rintro e w1 ⟨rfl, f1⟩
    have F1 := Lib.hid f1
    clear f1 hsl d0 d1
    go_wp2_with fail
    go_returns
    exact ⟨rfl, F1.out⟩
end
end Go.Proofs.YtkapkbiccppldaaGreatDoor

/- The document's slabs: one slab's rows; take. -/
namespace Go.Proofs.YtkapkbiccppldaaGreatDoor
set_option linter.unusedVariables false
set_option linter.unusedSimpArgs false
open Go.RowKit

theorem insS_end {x : Nat} : ∀ {l : List Nat}, (∀ z ∈ l, ¬ x < z) → insS x l = l ++ [x]
  | [], _ => rfl
  | y :: l, h => by
    unfold insS
    rw [if_neg (h y (by simp)), insS_end (fun z hz => h z (by simp [hz]))]
    rfl
theorem insS_in {x y : Nat} : ∀ {l : List Nat}, (∃ z ∈ l, x < z) → insS x (l ++ [y]) = insS x l ++ [y]
  | [], h => by simp at h
  | z :: l, h => by
    rw [List.cons_append]
    unfold insS
    by_cases hz : x < z
    · rw [if_pos hz, if_pos hz]; rfl
    · rw [if_neg hz, if_neg hz, insS_in (by
        obtain ⟨u, hu, hl⟩ := h
        rcases List.mem_cons.1 hu with rfl | hu
        · exact absurd hl hz
        · exact ⟨u, hu, hl⟩)]
      rfl
theorem insS_out {x y : Nat} : ∀ {l : List Nat}, (∀ z ∈ l, ¬ x < z) → x < y → insS x (l ++ [y]) = l ++ [x] ++ [y]
  | [], _, h => by simp [insS, h]
  | z :: l, h, hy => by
    rw [List.cons_append]
    unfold insS
    rw [if_neg (h z (by simp)), insS_out (fun u hu => h u (by simp [hu])) hy]
    rfl
/-- How far the document has gone in putting x into a row. -/
def insD (x : Nat) (L : List Nat) (k : Nat) : Bool := (L.take k).any fun z => decide (x < z)
def insK (x : Nat) (L : List Nat) (k : Nat) : List Nat := if insD x L k then insS x (L.take k) else L.take k
theorem insK_0 (x : Nat) (L : List Nat) : insD x L 0 = false ∧ insK x L 0 = [] := ⟨by simp [insD], by simp [insK, insD]⟩
theorem insD_true {x : Nat} {L : List Nat} {k : Nat} : insD x L k = true ↔ ∃ z ∈ L.take k, x < z := by simp [insD]
theorem insD_false {x : Nat} {L : List Nat} {k : Nat} : insD x L k = false ↔ ∀ z ∈ L.take k, ¬ x < z := by simp [insD]
theorem take_snoc {L : List Nat} {k y : Nat} (h : L[k]? = some y) : L.take (k + 1) = L.take k ++ [y] := by rw [List.take_add_one, h]; rfl
theorem insK_a {x : Nat} {L : List Nat} {k y : Nat} (h : L[k]? = some y) (hd : insD x L k = true) : insD x L (k + 1) = true ∧ insK x L (k + 1) = insK x L k ++ [y] := by
  have h1 : insD x L (k + 1) = true := by
    obtain ⟨z, hz, hl⟩ := insD_true.1 hd
    exact insD_true.2 ⟨z, by rw [take_snoc h]; simp [hz], hl⟩
  refine ⟨h1, ?_⟩
  unfold insK
  rw [if_pos h1, if_pos hd, take_snoc h, insS_in (insD_true.1 hd)]
theorem insK_b {x : Nat} {L : List Nat} {k y : Nat} (h : L[k]? = some y) (hd : insD x L k = false) (hy : x < y) : insD x L (k + 1) = true ∧ insK x L (k + 1) = insK x L k ++ [x] ++ [y] := by
  have h1 : insD x L (k + 1) = true := insD_true.2 ⟨y, by rw [take_snoc h]; simp, hy⟩
  refine ⟨h1, ?_⟩
  unfold insK
  rw [if_pos h1, hd, if_neg (by simp), take_snoc h, insS_out (insD_false.1 hd) hy]
theorem insK_c {x : Nat} {L : List Nat} {k y : Nat} (h : L[k]? = some y) (hd : insD x L k = false) (hy : ¬ x < y) : insD x L (k + 1) = false ∧ insK x L (k + 1) = insK x L k ++ [y] := by
  have h1 : insD x L (k + 1) = false := insD_false.2 (fun z hz => by
    rw [take_snoc h] at hz
    rcases List.mem_append.1 hz with hz | hz
    · exact insD_false.1 hd z hz
    · simp at hz; subst hz; exact hy)
  refine ⟨h1, ?_⟩
  unfold insK
  rw [h1, hd, if_neg (by simp), if_neg (by simp), take_snoc h]
theorem insK_end (x : Nat) (L : List Nat) : insS x L = if insD x L L.length then insK x L L.length else insK x L L.length ++ [x] := by
  unfold insK
  by_cases h : insD x L L.length = true
  · rw [if_pos h, if_pos h, List.take_length]
  · rw [if_neg h, if_neg h, insS_end (fun z hz => insD_false.1 (by simpa using h) z (by rw [List.take_length]; exact hz)), List.take_length]
theorem insK_len (x : Nat) (L : List Nat) (k : Nat) : (insK x L k).length ≤ L.length + 1 := by
  unfold insK
  split
  · rw [insS_len, List.length_take]; omega
  · rw [List.length_take]; omega

set_option maxRecDepth 100000 in
theorem run_appI (w : World) (base : Nat) (v : Value) (l : List Nat) (h : w.ownsRow base 3 1 v l.length (intC l)) (A : Option Addr) (c : Nat) (m : List Nat) (hm : ∀ j (hj : j < m.length), ∃ g o, A = some ⟨g, o, none⟩ ∧ w.cell? ⟨g, o + j, none⟩ = some (.int .i64 (m[j] : Nat))) (hl : l.length + m.length ≤ 1048576) (hbase : base ≤ w.heap.size) :
    ∃ v' w', (Builtin.append_ #[42, 42] 42 #[v, .slice A m.length c]).run Tryz.prog w = .ok v' w' ∧ w'.ownsRow base 3 1 v' (l ++ m).length (intC (l ++ m)) ∧ w.grownBy w' v.ownBlock := by
  obtain ⟨i, hi, hz, hs, hb⟩ := info_parts info_int
  rcases A with _ | ad
  · have hm0 : m = [] := by
      rcases m with _ | ⟨x, m⟩
      · rfl
      · obtain ⟨g, o, e, _⟩ := hm 0 (by simp)
        cases e
    subst hm0
    refine ⟨v, w, ?_, by simpa using h, World.grownBy.refl w _⟩
    obtain ⟨h1, ⟨rfl, h2⟩ | ⟨g, cap, cur, rfl, hg, hh, hc, _⟩⟩ := h
    · have : l = [] := List.eq_nil_of_length_eq_zero h2
      subst this
      simp [Builtin.append_, run_underlying Tryz.underlying42, sizeOf, typeInfo, hi, Builtin.lenOf, Builtin.firstCells]
    · simp [Builtin.append_, run_underlying Tryz.underlying42, sizeOf, typeInfo, hi, Builtin.lenOf, Builtin.firstCells, hc, storeCells]
  · have hcells : ∀ j u, (intC m)[j]? = some u → w.cell? (ad.add j) = some u := by
      intro j u hu
      have hj : j < m.length := by
        have := (List.getElem?_eq_some_iff.1 hu).1
        simpa [intC] using this
      obtain ⟨g, o, e, hc⟩ := hm j hj
      injection e with e
      subst e
      have hadd : (⟨g, o, none⟩ : Addr).add j = ⟨g, o + j, none⟩ := by unfold Addr.add; split <;> simp_all
      rw [hadd, hc]
      rw [intC, List.getElem?_map, List.getElem?_eq_getElem hj] at hu
      exact hu
    obtain ⟨v', w', hrun, h2, h3, _, _⟩ := run_append_own_at (P := Tryz.prog) w base 42 42 3 i (.int .i64 0) 1 8 Tryz.underlying42 hi hz hs hb rfl (by decide) v l.length (intC l) h ad m.length c (intC m) (by simp [intC]) hcells (fun u hu => by
      obtain ⟨k, _, rfl⟩ := List.mem_map.1 hu
      rfl) (by unfold maxLen; omega) (by omega) hbase
    refine ⟨v', w', hrun, ?_, h3⟩
    rw [List.length_append, intC, List.map_append]
    exact h2
section
variable {w w' : World} {p gl a s : Nat} {B S' : List Nat} {S : SS}
theorem RS.rowi (h : RS w p gl a s B S) (i : Nat) (hi : i < a) : ∃ df cf dl cl, RowW w B df cf (S.fr i) ∧ RowW w B dl cl (S.lv i) ∧ ∀ W, Fr [] w W → (W.cell? ⟨gl, i * 3, none⟩ = some (.int .i64 (S.cls i)) ∧ W.cell? ⟨gl, i * 3 + 1, none⟩ = some (.slice df (S.fr i).length cf) ∧ W.cell? ⟨gl, i * 3 + 2, none⟩ = some (.slice dl (S.lv i).length cl) ∧ W.cell? ⟨p, 2, none⟩ = some (.slice (some ⟨gl, 0, none⟩) a a) ∧ ∀ j, W.frozen? ⟨gl, j, none⟩ = false) := by
  obtain ⟨rf, rl, h1, h2⟩ := h.rows
  obtain ⟨e1, e2⟩ := h2 i hi
  refine ⟨(rf i).1, (rf i).2, (rl i).1, (rl i).2, e1, e2, fun W hW => ?_⟩
  have hb := h1.fr hW (by simp)
  refine ⟨(hb.cell (i * 3 + 0)).trans (rsC_get a S rf rl i 0 hi (by decide)), (hb.cell (i * 3 + 1)).trans (rsC_get a S rf rl i 1 hi (by decide)), (hb.cell (i * 3 + 2)).trans (rsC_get a S rf rl i 2 hi (by decide)), (h.st.fr hW (by simp)).cell 2, fun j => hb.frozen j⟩
theorem RS.put (h : RS w p gl a s B S) (i r : Nat) (hi : i < a) (S2 : SS) (v : Value) (B' : List Nat) (hB : ∀ k ∈ B, k ∈ B') (hlt : ∀ k ∈ B', k < w.heap.size) (rf rl rf' rl' : Nat → Option Addr × Nat)
    (h1 : Blk w gl 56 (rsC a S rf rl)) (h2 : ∀ j, j < a → RowW w B' (rf' j).1 (rf' j).2 (S2.fr j) ∧ RowW w B' (rl' j).1 (rl' j).2 (S2.lv j)) (hr : r < 3)
    (hv : rsc S2 rf' rl' i r = v) (hoth : ∀ j q, j < a → q < 3 → ¬ (j = i ∧ q = r) → rsc S2 rf' rl' j q = rsc S rf rl j q) : RS (w.setCell ⟨gl, i * 3 + r, none⟩ v) p gl a s B' S2 := by
  have hne := h.ne
  have fr : Fr [gl] w (w.setCell ⟨gl, i * 3 + r, none⟩ v) := (Fr.refl _ _).setCell (.inl (by simp)) _
  have hrow : ∀ {ad : Option Addr} {cap : Nat} {l : List Nat}, RowW w B' ad cap l → RowW (w.setCell ⟨gl, i * 3 + r, none⟩ v) B' ad cap l := fun {ad cap l} hr h0 => by
    obtain ⟨g, e, hb, hri⟩ := hr h0
    refine ⟨g, e, hb, hri.fr fr (fun hm => ?_)⟩
    obtain ⟨cur, hbk, _⟩ := hri
    have := hbk.ne_ h1 (by decide)
    simp at hm
    exact this hm
  refine ⟨h.st.far (by simpa using hne) _, ⟨rf', rl', ?_, fun j hj => ⟨hrow (h2 j hj).1, hrow (h2 j hj).2⟩⟩, hB _ h.hp, hB _ h.hg, fun k hk => Nat.lt_of_lt_of_le (hlt k hk) fr.size, h.cfg⟩
  have hb := h1.set (i * 3 + r) v
  rw [rsC_ext a S2 rf' rl' ((rsC a S rf rl).setIfInBounds (i * 3 + r) v) (by simp [rsC_size]) (fun j q hj hq => ?_)] at hb
  · exact hb
  · rw [Array.getElem?_setIfInBounds]
    by_cases e : i * 3 + r = j * 3 + q
    · have e1 : j = i := by omega
      have e2 : q = r := by omega
      subst e1 e2
      rw [if_pos rfl, if_pos (by rw [rsC_size]; omega), hv]
    · rw [if_neg e, rsC_get a S rf rl j q hj hq, hoth j q hj hq (by rintro ⟨rfl, rfl⟩; exact e rfl)]
theorem RS.setF (h : RS w p gl a s B S) (i : Nat) (F : List Nat) (df : Option Addr) (cf : Nat) (B' : List Nat) (hB : ∀ k ∈ B, k ∈ B') (hlt : ∀ k ∈ B', k < w.heap.size) (hF : RowW w B' df cf F) (hi : i < a) :
    RS (w.setCell ⟨gl, i * 3 + 1, none⟩ (.slice df F.length cf)) p gl a s B' (S.set i (S.cls i) F (S.lv i)) := by
  obtain ⟨rf, rl, h1, h2⟩ := h.rows
  refine h.put i 1 hi _ _ B' hB hlt rf rl (up rf i (df, cf)) rl h1 (fun j hj => ?_) (by decide) (by unfold rsc SS.set; dsimp only; simp only [up_same, if_pos, if_neg, reduceIte, Nat.reduceEqDiff, Nat.one_ne_zero]) (fun j q hj hq hn => ?_)
  · unfold SS.set
    dsimp only
    by_cases e : j = i
    · subst e
      rw [up_same, up_same, up_same]
      exact ⟨hF, (h2 j hj).2.mono hB⟩
    · rw [up_ne _ _ e, up_ne _ _ e, up_ne _ _ e]
      exact ⟨(h2 j hj).1.mono hB, (h2 j hj).2.mono hB⟩
  · unfold rsc SS.set
    dsimp only
    by_cases e : j = i
    · subst e
      rw [up_same, up_same, up_same, up_same, if_neg (show q ≠ 1 from fun e => hn ⟨rfl, e⟩)]
      split
      · rfl
      · rw [if_neg (fun e => hn ⟨rfl, e⟩)]
    · rw [up_ne _ _ e, up_ne _ _ e, up_ne _ _ e, up_ne _ _ e]
theorem RS.setL (h : RS w p gl a s B S) (i : Nat) (L : List Nat) (dl : Option Addr) (cl : Nat) (B' : List Nat) (hB : ∀ k ∈ B, k ∈ B') (hlt : ∀ k ∈ B', k < w.heap.size) (hL : RowW w B' dl cl L) (hi : i < a) :
    RS (w.setCell ⟨gl, i * 3 + 2, none⟩ (.slice dl L.length cl)) p gl a s B' (S.set i (S.cls i) (S.fr i) L) := by
  obtain ⟨rf, rl, h1, h2⟩ := h.rows
  refine h.put i 2 hi _ _ B' hB hlt rf rl rf (up rl i (dl, cl)) h1 (fun j hj => ?_) (by decide) (by unfold rsc SS.set; dsimp only; simp only [up_same, if_pos, if_neg, reduceIte, Nat.reduceEqDiff, Nat.one_ne_zero]) (fun j q hj hq hn => ?_)
  · unfold SS.set
    dsimp only
    by_cases e : j = i
    · subst e
      rw [up_same, up_same, up_same]
      exact ⟨(h2 j hj).1.mono hB, hL⟩
    · rw [up_ne _ _ e, up_ne _ _ e, up_ne _ _ e]
      exact ⟨(h2 j hj).1.mono hB, (h2 j hj).2.mono hB⟩
  · unfold rsc SS.set
    dsimp only
    have hq2 : j = i → q = 0 ∨ q = 1 := fun e => by
      have : q ≠ 2 := fun e2 => hn ⟨e, e2⟩
      omega
    by_cases e : j = i
    · subst e
      rw [up_same, up_same, up_same, up_same]
      rcases hq2 rfl with rfl | rfl <;> rfl
    · rw [up_ne _ _ e, up_ne _ _ e, up_ne _ _ e, up_ne _ _ e]
theorem SS.set_set (S : SS) (i c c' : Nat) (F F' L L' : List Nat) : (S.set i c F L).set i c' F' L' = S.set i c' F' L' := by
  unfold SS.set
  dsimp only
  rw [up_up, up_up, up_up]
end
end Go.Proofs.YtkapkbiccppldaaGreatDoor

/- The document's slabs: take. -/
namespace Go.Proofs.YtkapkbiccppldaaGreatDoor
set_option linter.unusedVariables false
set_option linter.unusedSimpArgs false
open Go.RowKit

theorem step_app {P : Program} {ops : Array Oper} {o : Oper} {a : Act} {w : World} {K : Act → World → Prop} {Q : Exit → Act → World → Prop} {E : Prop}
    (hg : o.guard = none) (s x : Operand) (t : TypeId) (hop : o.op = Op.call { callee := Callee.builtin Builtin.append, args := #[s, x], argTypes := #[t, t] }) (hty : o.type = t)
    (vs vx v' : Value) (w' : World) (hs : a.eval s = vs) (hx : a.eval x = vx) (hrun : (Builtin.append_ #[t, t] t #[vs, vx]).run P w = .ok v' w')
    (hK : K (a.put o.dst v') w') : if Region.wanted o (yielded ops a.tmps) = true then Oper.wp P o a w K Q else E := by
  have hw : Region.wanted o (yielded ops a.tmps) = true := by simp [Region.wanted, hg]
  rw [if_pos hw]
  subst hty
  unfold Oper.wp
  simp [execOp, hop, resolve, invoke, builtin, hs, hx, hrun, Result.andThen]
  exact hK
theorem cutG {G H : Prop} (f : G → H) (g : G) : H := f g
/-- The document's slabs changed: their own blocks and new ones. -/
structure RX (w w' : World) (p gl a s : Nat) (B : List Nat) (S' : SS) : Prop where
  x : ∃ B', RS w' p gl a s B' S' ∧ (∀ k ∈ B, k ∈ B') ∧ (∀ k ∈ B', k ∈ B ∨ w.heap.size ≤ k)
  f : Fr [gl] w w'
section
variable {w : World} {p gl a s : Nat} {B : List Nat} {S : SS}
theorem ownI0 (w : World) : (w.alloc (.cells #[] 3)).ownsRow w.heap.size 3 1 (.slice (some ⟨w.heap.size, 0, none⟩) 0 0) ([] : List Nat).length (intC []) :=
  ⟨rfl, .inr ⟨_, 0, #[], rfl, Nat.le_refl _, Blk.new _ _ _, Nat.le_refl _, by unfold maxLen; omega, rfl, rfl⟩⟩
theorem RowV.toD {w : World} {base cap : Nat} {ad : Option Addr} {l : List Nat} (h : RowV w base ad cap l) : ∃ D, RowW w D ad cap l ∧ ∀ k ∈ D, base ≤ k ∧ k < w.heap.size := by
  by_cases h0 : 0 < l.length
  · obtain ⟨g, e, hb, hr⟩ := h h0
    exact ⟨[g], fun _ => ⟨g, e, by simp, hr⟩, fun k hk => by simp at hk; subst hk; exact ⟨hb, hr.lt⟩⟩
  · exact ⟨[], fun h1 => absurd h1 h0, fun k hk => by cases hk⟩
set_option maxRecDepth 100000 in
set_option maxHeartbeats 2000000 in
theorem xtake (h : RS w p gl a s B S) (i x : Nat) (F : List Nat) (hi : i < a) (hF : S.fr i = x :: F) (hf : F.length ≤ 1000) (hl : (S.lv i).length ≤ 1000) :
    Calls Tryz.prog 95 #[.pointer (some ⟨p, 0, none⟩), .int .i64 i] w fun e w' => e = .returned (.int .i64 x) ∧ RX w w' p gl a s B (S.set i (S.cls i) F (insS x (S.lv i))) := by
  obtain ⟨df, cf, dl, cl, rF, rL, hc⟩ := h.rowi i hi
  rw [hF] at rF hc
  obtain ⟨gF, rfl, hgF, hrF⟩ := rF (by simp)
  have hx := fun W (hW : Fr [] w W) => (hrF.fr hW (by simp)).cell 0 (by simp)
  have ha := h.cfg.a2
  have H0 := Lib.hid h
  have hcap : F.length + 1 ≤ cf := hrF.le
  have hi2 : (0 : Int) ≤ i := by omega
  have hi3 : (i : Int) < a := by omega
  -- the free blocks but for the first
  have hm : ∀ j (hj : j < F.length), ∃ g o, (if cf = 1 then (some ⟨gF, 0, none⟩ : Option Addr) else some ⟨gF, 1, none⟩) = some ⟨g, o, none⟩ ∧ (w.alloc (.cells #[] 3)).drew.cell? ⟨g, o + j, none⟩ = some (.int .i64 (F[j] : Nat)) := fun j hj => by
    have := (hrF.fr (((Fr.refl [] w).alloc (.cells #[] 3)).drew) (by simp)).cell (j + 1) (by simp; omega)
    exact ⟨gF, 1, by rw [if_neg (by omega)], by rw [Nat.add_comm 1 j]; simpa using this⟩
  have hO0 := show (w.alloc (.cells #[] 3)).drew.ownsRow w.heap.size 3 1 (.slice (some ⟨w.heap.size, 0, none⟩) 0 0) ([] : List Nat).length (intC []) from ownI0 w
  have hap := run_appI (w.alloc (.cells #[] 3)).drew w.heap.size _ [] hO0 _ (cf - 1) F hm (by simp; omega) (by simp)
  obtain ⟨v2, w2, hap, hO2, hG2⟩ := hap
  rw [List.nil_append] at hO2
  have f2 : Fr [] w w2 := own_fr hO0 hG2 ((Fr.refl [] w).alloc _).drew (Nat.le_refl _)
  obtain ⟨c0, c1, c2, c3, c4⟩ := hc w (Fr.refl _ _)
  obtain ⟨q0, q1, q2, q3, q4⟩ := hc w.drew (Fr.refl _ _).drew
  obtain ⟨o0, o1, o2, o3, o4⟩ := hc (w.alloc (.cells #[] 3)).drew ((Fr.refl _ _).alloc _).drew
  obtain ⟨r0, r1, r2, r3, r4⟩ := hc w2 f2
  have hx0 := hx w (Fr.refl _ _)
  obtain ⟨d2, k2, rfl, hv2⟩ := own_row hO2
  obtain ⟨D, hD, hDb⟩ := hv2.toD
  have HB2 := Lib.hid (show ∀ k ∈ D ++ B, k ∈ B ∨ w.heap.size ≤ k from fun k hk => by
    rcases List.mem_append.1 hk with hk | hk
    · exact .inr (hDb k hk).1
    · exact .inl hk)
  have H2 := Lib.hid ((H0.out.fr0 f2).setF i F d2 k2 (D ++ B) (fun k hk => List.mem_append.2 (.inr hk)) (fun k hk => by
    rcases List.mem_append.1 hk with hk | hk
    · exact (hDb k hk).2
    · exact (H0.out.fr0 f2).lt k hk) (hD.mono (fun k hk => List.mem_append.2 (.inl hk))) hi)
  have F2 := Lib.hid ((f2.nil (S := [gl])).setCell (p := ⟨gl, i * 3 + 1, none⟩) (.inl (by simp)) (.slice d2 F.length k2))
  have HAP := Lib.hid hap
  have h1F : (1 : Int) ≤ (F.length : Int) + 1 := by omega
  clear hap hO0 hO2 hG2 hv2 hm hrF rF f2 hx hcap h
  go_enter Tryz.func95, Tryz.ntmps95
  go_wp2_with fail
  apply cutG
  · intro key
    go_region_law (refine step_app rfl (.tmp 24) (.tmp 33) 42 rfl rfl _ _ _ _ (by simp [Act.eval, Act.put]) (by simp [Act.eval, Act.put]) HAP.out ?_)
    all_goals exact key
  · obtain ⟨df3, cf3, dl3, cl3, rF3, rL3, hc3⟩ := H2.out.rowi i hi
    have es : (S.set i (S.cls i) F (S.lv i)).lv i = S.lv i := by unfold SS.set; dsimp only; rw [up_same]
    have ef : (S.set i (S.cls i) F (S.lv i)).fr i = F := by unfold SS.set; dsimp only; rw [up_same]
    have ec : (S.set i (S.cls i) F (S.lv i)).cls i = S.cls i := by unfold SS.set; dsimp only; rw [up_same]
    simp only [es] at rL3 hc3
    have HL := Lib.hid (fun (W : World) (hW : RS W p gl a s (D ++ B) (S.set i (S.cls i) F (S.lv i))) (d4 : Option Addr) (k4 : Nat) (hv4 : RowV W w.heap.size d4 k4 (insS x (S.lv i))) (f4 : Fr [gl] w W) => (show RX w (W.setCell ⟨gl, i * 3 + 2, none⟩ (.slice d4 (insS x (S.lv i)).length k4)) p gl a s B (S.set i (S.cls i) F (insS x (S.lv i))) from by
      obtain ⟨D4, hD4, hb4⟩ := hv4.toD
      have := hW.setL i (insS x (S.lv i)) d4 k4 (D4 ++ (D ++ B)) (fun k hk => List.mem_append.2 (.inr hk)) (fun k hk => by
        rcases List.mem_append.1 hk with hk | hk
        · exact (hb4 k hk).2
        · exact hW.lt k hk) (hD4.mono (fun k hk => List.mem_append.2 (.inl hk))) hi
      rw [ec, ef, SS.set_set] at this
      refine ⟨⟨_, this, fun k hk => by simp [hk], fun k hk => ?_⟩, f4.setCell (.inl (by simp)) _⟩
      rcases List.mem_append.1 hk with hk | hk
      · exact .inr (hb4 k hk).1
      · exact HB2.out k hk))
    have hs3 : w.heap.size ≤ (w2.setCell ⟨gl, i * 3 + 1, none⟩ (.slice d2 F.length k2)).heap.size := F2.out.size
    clear HB2 HAP r0 r1 r2 r3 r4 o0 o1 o2 o3 o4 q0 q1 q2 q3 q4 c0 c1 c2 c3 c4 hx0 hD hDb rF3 es ef ec H0 rL hc
    generalize (if cf = 1 then (some ⟨gF, 0, none⟩ : Option Addr) else some ⟨gF, 1, none⟩) = A9 at *
    generalize w2.setCell ⟨gl, i * 3 + 1, none⟩ (.slice d2 F.length k2) = w3 at *
    generalize hS3 : S.set i (S.cls i) F (insS x (S.lv i)) = S3 at *
    have HS3 := Lib.hid hS3
    clear hS3
    generalize S.set i (S.cls i) F (S.lv i) = S2 at *
    generalize hL : S.lv i = L at *
    generalize hn : L.length = n at *
    have HN := Lib.hid hn
    have HK := Lib.hid (insK_end x L)
    have hKl : ∀ j, (insK x L j).length ≤ n + 1 := fun j => by rw [← hn]; exact insK_len x L j
    have HLL := Lib.hid hL
    clear hn hL hF
    go_wp2_with fail
    go_loopw [6, 7, 8] (fun v d k W => ∃ j : Nat, j ≤ n ∧ k = .int .i64 j ∧ d = .bool (insD x L j) ∧ W.ownsRow w3.heap.size 3 1 v (insK x L j).length (intC (insK x L j)) ∧ Fr [] w3 W) (fun _ _ k _ => n - (intOf k).toNat)
    case atStart => exact ⟨0, by omega, rfl, by rw [(insK_0 x L).1], by rw [(insK_0 x L).2]; exact World.ownsRow_nil _ _ _ _, Fr.refl _ _⟩
    case round =>
      obtain ⟨j, hj, rfl, rfl, hO, hF⟩ := hrel
      have HF := Lib.hid hF
      have HO := Lib.hid hO
      obtain ⟨c0, c1, c2, c3, c4⟩ := hc3 _ hF
      have hkl := hKl j
      clear hO
      by_cases hlt : j < n
      · have hjl : j < L.length := by have := HN.out; omega
        obtain ⟨g, rfl, hgB, rg⟩ := rL3 (by omega)
        have hy := fun W (hW : Fr [] w3 W) => (rg.fr hW (by simp)).cell j hjl
        have cy := hy _ hF
        have hget : L[j]? = some L[j] := List.getElem?_eq_getElem hjl
        have b1 : decide ((j : Int) < n) = true := by simp; omega
        have b1' : decide (j < n) = true := by simp; omega
        have hg2 : (0 : Int) ≤ j := by omega
        have hg3 : (j : Int) < n := by omega
        have w1 : IntKind.i64.wrap ((j : Int) + 1) = (j : Int) + 1 := IntWalk.i64_in _ (by omega)
        generalize L[j] = y at *
        clear hF
        by_cases hd : insD x L j = true
        · obtain ⟨e1, e2⟩ := insK_a hget hd
          have E1 := Lib.hid e1
          have E2 := Lib.hid e2
          rw [hd]
          clear e1 e2 hd hget
          go_wp2_with (at_builtin; refine wpList_append1 rfl _ _ rfl w3.heap.size _ _ rfl y wr rfl HO.out rfl (by omega) HF.out.size ?_; intro v1 W1 hO1 hF1)
          go_roundw
          case rel => exact ⟨j + 1, by omega, by go_num, by rw [E1.out], by rw [E2.out]; exact hO1, hF1 w3 HF.out (Nat.le_refl _)⟩
          case measure => simp [intOf]; omega
        · have hd : insD x L j = false := by simpa using hd
          by_cases hxy : x < y
          · obtain ⟨e1, e2⟩ := insK_b hget hd hxy
            have E1 := Lib.hid e1
            have E2 := Lib.hid e2
            have b2 : decide ((x : Int) < y) = true := by simp; omega
            have b2' : decide (x < y) = true := by simp; omega
            rw [hd]
            have tok : True := trivial
            clear e1 e2 hd hget hxy
            go_wp2_with (first | (at_builtin; have _t := tok; refine wpList_append1 rfl _ _ rfl w3.heap.size _ _ rfl x wr rfl HO.out rfl (by omega) HF.out.size ?_; intro v1 W1 hO1 hF1; have HF1 := Lib.hid (hF1 w3 HF.out (Nat.le_refl _)); have HO1 := Lib.hid hO1; clear hF1 hO1 c0 c1 c2 c3 c4 cy tok _t; obtain ⟨c0, c1, c2, c3, c4⟩ := hc3 _ HF1.out; have cy := hy _ HF1.out; have tok2 : True := trivial) | (at_builtin; have _t := tok2; refine wpList_append1 rfl _ _ rfl w3.heap.size _ _ rfl y W1 rfl HO1.out rfl (by simp; omega) HF1.out.size ?_; intro v2 W2 hO2 hF2) | fail)
            go_roundw
            case rel => exact ⟨j + 1, by omega, by go_num, by rw [E1.out], by rw [E2.out]; exact hO2, hF2 w3 HF1.out (Nat.le_refl _)⟩
            case measure => simp [intOf]; omega
          · obtain ⟨e1, e2⟩ := insK_c hget hd hxy
            have E1 := Lib.hid e1
            have E2 := Lib.hid e2
            have b2 : decide ((x : Int) < y) = false := by simp; omega
            have b2' : decide (x < y) = false := by simp; omega
            rw [hd]
            clear e1 e2 hd hget hxy
            go_wp2_with (at_builtin; refine wpList_append1 rfl _ _ rfl w3.heap.size _ _ rfl y wr rfl HO.out rfl (by omega) HF.out.size ?_; intro v1 W1 hO1 hF1)
            go_roundw
            case rel => exact ⟨j + 1, by omega, by go_num, by rw [E1.out], by rw [E2.out]; exact hO1, hF1 w3 HF.out (Nat.le_refl _)⟩
            case measure => simp [intOf]; omega
      · obtain rfl : j = n := by omega
        have b1 : decide ((j : Int) < j) = false := by simp
        have b1' : decide (j < j) = false := by simp
        have hend := HK.out
        rw [HN.out] at hend
        have HQ := Lib.hid (fun (d4 : Option Addr) (k4 : Nat) (W : World) (hf : Fr [] w3 W) (ho : RowV W w3.heap.size d4 k4 (insS x L)) => HL.out W (H2.out.fr0 hf) d4 k4 (fun h0 => by
          obtain ⟨g, e, hb, hr⟩ := ho h0
          exact ⟨g, e, by omega, hr⟩) (F2.out.step hf (by simp)))
        have HC := Lib.hid hc3
        clear hF hc3
        by_cases hd : insD x L j = true
        · rw [if_pos hd] at hend
          have HO2 := HO.out
          rw [← hend] at HO2
          obtain ⟨d4, k4, rfl, hrow⟩ := own_row HO2
          have HQ2 := Lib.hid (HQ.out d4 k4 wr HF.out hrow)
          rw [hd]
          clear hd hend HO2 hrow HO HQ
          generalize (insS x L).length = m at *
          go_wp2_with fail
          go_ret
          exact ⟨rfl, by rw [HLL.out, HS3.out]; exact HQ2.out⟩
        · have hd : insD x L j = false := by simpa using hd
          rw [hd, if_neg (by simp)] at hend
          rw [hd]
          have HE := Lib.hid hend
          clear hd hend
          go_wp2_with (at_builtin; refine wpList_append1 rfl _ _ rfl w3.heap.size _ _ rfl x wr rfl HO.out rfl (by omega) HF.out.size ?_; intro v1 W1 hO1 hF1; have HF1 := Lib.hid (hF1 w3 HF.out (Nat.le_refl _)); rw [← HE.out] at hO1; obtain ⟨d4, k4, rfl, hrow⟩ := own_row hO1; have HQ2 := Lib.hid (HQ.out d4 k4 W1 HF1.out hrow); have HC3 := HC.out _ HF1.out; clear hF1 hO1 c0 c1 c2 c3 c4 hrow HQ; obtain ⟨c0, c1, c2, c3, c4⟩ := HC3; generalize (insS x L).length = m at *)
          go_ret
          exact ⟨rfl, by rw [HLL.out, HS3.out]; exact HQ2.out⟩
end
end Go.Proofs.YtkapkbiccppldaaGreatDoor

/- The document's slabs: Take. -/
namespace Go.Proofs.YtkapkbiccppldaaGreatDoor
set_option linter.unusedVariables false
set_option linter.unusedSimpArgs false
open Go.RowKit

theorem lst_first {a : Nat} {inn : Nat → Int} {c : Nat} {j : Nat} (hj : j < a) (h : inn j = (c : Int)) (hb : ∀ k, k < j → inn k ≠ (c : Int)) : hd1 (lst a inn c) = j + 1 := by
  have e : List.range a = List.range j ++ j :: (List.range' (j + 1) (a - j - 1)) := by
    rw [List.range_eq_range', List.range_eq_range', show a = j + ((a - j - 1) + 1) by omega, ← List.range'_append, List.range'_succ]
    simp
  unfold lst
  rw [e, List.filter_append, List.filter_eq_nil_iff.2 (fun k hk => by
    have := hb k (List.mem_range.1 hk)
    simpa using this), List.nil_append, List.filter_cons_of_pos (by simpa using h)]
  rfl
theorem lst_none {a : Nat} {inn : Nat → Int} {c : Nat} (hb : ∀ k, k < a → inn k ≠ (c : Int)) : hd1 (lst a inn c) = 0 := by
  unfold lst
  rw [List.filter_eq_nil_iff.2 (fun k hk => by
    have := hb k (List.mem_range.1 hk)
    simpa using this)]
  rfl
theorem inn_c {S : SS} {i c : Nat} (hc : 1 ≤ c) (h1 : S.cls i = c) (h2 : S.fr i ≠ []) : S.inn i = (c : Int) := by
  unfold SS.inn
  rw [if_neg (by omega), if_neg h2, h1]
theorem inn_0 {S : SS} {i : Nat} : S.inn i = ((0 : Nat) : Int) ↔ S.cls i = 0 := ⟨inn_free, fun h => by unfold SS.inn; rw [if_pos h]; rfl⟩
theorem RX.trans {w w1 w2 : World} {p gl a s : Nat} {B B1 : List Nat} {S1 S2 : SS} (hB1 : RS w1 p gl a s B1 S1) (h1 : ∀ k ∈ B, k ∈ B1) (h2 : ∀ k ∈ B1, k ∈ B ∨ w.heap.size ≤ k) (hf : Fr [gl] w w1) (h : RX w1 w2 p gl a s B1 S2) : RX w w2 p gl a s B S2 := by
  obtain ⟨⟨B2, g1, g2, g3⟩, g4⟩ := h
  refine ⟨⟨B2, g1, fun k hk => g2 k (h1 k hk), fun k hk => ?_⟩, hf.trans g4⟩
  rcases g3 k hk with h | h
  · exact h2 k h
  · exact .inr (Nat.le_trans hf.size h)
theorem RS.self {w : World} {p gl a s : Nat} {B : List Nat} {S : SS} (h : RS w p gl a s B S) {w' : World} (hf : Fr [] w w') : RX w w' p gl a s B S := ⟨⟨B, h.fr0 hf, fun _ h => h, fun _ h => .inl h⟩, hf.nil⟩
section
variable {w : World} {p gl a s : Nat} {B : List Nat} {S : SS}
def TakeX (w : World) (p gl a s : Nat) (B : List Nat) (R : Nat × Nat × SS) (e : Ending) (w' : World) : Prop := e = .returned (.tuple #[.int .i64 R.1, .int .i64 R.2.1]) ∧ RX w w' p gl a s B R.2.2
set_option maxRecDepth 100000 in
theorem xTake_no (h : RS w p gl a s B S) (c : Int) (hc : cszZ c = 0) : Calls Tryz.prog 19 #[.pointer (some ⟨p, 0, none⟩), .int .i64 c] w (TakeX w p gl a s B (takeS a (lbase a s) S c)) := by
  have hs8 := fun W => xsize8 (w := W) c
  have HE := Lib.hid (h.self (Fr.refl [] w))
  unfold TakeX takeS
  rw [if_pos hc]
  rw [hc] at hs8
  clear h hc
  go_enter Tryz.func19, Tryz.ntmps19
  go_wp2_with fail
  with_reducible refine (hs8 _).mono ?_
  rintro e w' ⟨rfl, rfl⟩
  go_wp2_with fail
  go_ret2
  exact ⟨rfl, HE.out⟩
set_option maxRecDepth 100000 in
set_option maxHeartbeats 4000000 in
theorem xTake_pop (h : RS w p gl a s B S) (hl : ∀ i, i < a → (S.fr i).length ≤ 1000 ∧ (S.lv i).length ≤ 1000) (c : Nat) (hc : 1 ≤ c ∧ c ≤ 9) (m : Nat) (hm : m < a) (hin : S.inn m = (c : Int)) (hb : ∀ k, k < m → S.inn k ≠ (c : Int)) : Calls Tryz.prog 19 #[.pointer (some ⟨p, 0, none⟩), .int .i64 c] w (TakeX w p gl a s B (popS S m)) := by
  have hs8 := fun W => xsize8 (w := W) c
  obtain ⟨c1, c2, c3, _⟩ := csz_tab c hc.1 hc.2
  rw [cszZ_nat c hc.2] at hs8
  have b0 : ((csz c : Int) == 0) = false := by simp <;> omega
  have b0' : (csz c = 0) = False := by simp; omega
  obtain ⟨hcl, h0, hF⟩ := inn_list hin hc.1
  obtain ⟨x, F, hxF⟩ : ∃ x F, S.fr m = x :: F := List.exists_cons_of_ne_nil hF
  have HT := Lib.hid (fun W (hW : RS W p gl a s B S) => xtake hW m x F hm hxF (by have := (hl m hm).1; rw [hxF] at this; simp at this; omega) (hl m hm).2)
  have H0 := Lib.hid h
  have ha := h.cfg.a2
  unfold TakeX popS
  rw [hxF]
  simp only [List.headD_cons, List.tail_cons]
  have hno : ∀ k, k < m → S.cls k ≠ c ∨ (S.cls k = c ∧ S.fr k = []) := fun k hk => by
    by_cases h1 : S.cls k = c
    · by_cases h2 : S.fr k = []
      · exact .inr ⟨h1, h2⟩
      · exact absurd (inn_c hc.1 h1 h2) (hb k hk)
    · exact .inl h1
  clear c1 c2 c3 hb hin h hl
  generalize csz c = n at *
  go_enter Tryz.func19, Tryz.ntmps19
  go_wp2_with fail
  with_reducible refine (hs8 _).mono ?_
  rintro e w' ⟨rfl, rfl⟩
  go_wp2_with fail
  clear hs8
  go_loopw [6] (fun i W => ∃ j : Nat, j ≤ m ∧ i = .int .i64 j ∧ Fr [] w' W) (fun i _ => m - (intOf i).toNat)
  case atStart => exact ⟨0, by omega, rfl, Fr.refl _ _⟩
  case round =>
    obtain ⟨j, hj, rfl, hF'⟩ := hrel
    have hja : j < a := by omega
    obtain ⟨df, cf, dl, cl, rF, rL, hcc⟩ := H0.out.rowi j hja
    obtain ⟨d0, d1, d2, d3, d4⟩ := hcc _ hF'
    have HF := Lib.hid hF'
    have hg2 : (0 : Int) ≤ j := by omega
    have hg3 : (j : Int) < a := by omega
    have b1 : decide ((j : Int) < a) = true := by simp; omega
    have b1' : decide (j < a) = true := by simp; omega
    have w1 : IntKind.i64.wrap ((j : Int) + 1) = (j : Int) + 1 := IntWalk.i64_in _ (by omega)
    clear rF rL hcc hF'
    by_cases hlt : j < m
    · rcases hno j hlt with h1 | ⟨h1, h2⟩
      · have e1 : ((S.cls j : Int) == c) = false := by simp; omega
        have e1' : (S.cls j = c) = False := by simp; exact h1
        clear h1
        go_wp2_with fail
        go_roundw
        case rel => exact ⟨j + 1, by omega, by go_num, HF.out⟩
        case measure => simp [intOf]; omega
      · rw [h1] at d0
        rw [h2] at d1
        simp only [List.length_nil] at d1
        clear h1 h2
        go_wp2_with fail
        go_roundw
        case rel => exact ⟨j + 1, by omega, by go_num, HF.out⟩
        case measure => simp [intOf]; omega
    · obtain rfl : j = m := by omega
      rw [hcl] at d0
      rw [hxF] at d1
      simp only [List.length_cons] at d1
      have e2 : decide ((0 : Int) < ((F.length + 1 : Nat) : Int)) = true := by simp <;> omega
      have e2' : decide (0 < F.length + 1) = true := by simp
      go_wp2_with fail
      with_reducible refine (HT.out _ (H0.out.fr0 HF.out)).mono ?_
      rintro e w2 ⟨rfl, hx⟩
      have HX := Lib.hid (RX.trans (H0.out.fr0 HF.out) (fun _ h => h) (fun _ h => .inl h) (HF.out.nil) hx)
      clear hx
      go_wp2_with fail
      go_ret2
      exact ⟨rfl, HX.out⟩
end
end Go.Proofs.YtkapkbiccppldaaGreatDoor
