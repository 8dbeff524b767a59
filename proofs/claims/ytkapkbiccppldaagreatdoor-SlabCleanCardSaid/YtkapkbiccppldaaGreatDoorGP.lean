/- Several texts in one. -/
import Derived.Test.YtkapkbiccppldaaGreatDoorGA
import Derived.Lib.IndexMore
import Derived.Lib.Bytes
import Derived.Test.YtkapkbiccppldaaGreatDoorChecked
import Derived.Shelf.LaysM
import Derived.Shelf.Bytes.SlIndexWhole
import Derived.Shelf.Bytes.SlIndexSmall
import Derived.Test.YtkapkbiccppldaaGreatDoorGB
/- Bytes that lie somewhere in others: plain words, and the library's. -/
namespace Go.Proofs.YtkapkbiccppldaaGreatDoor
set_option linter.unusedVariables false
set_option linter.unusedSimpArgs false
open Go.RowKit

def hasB (l b : List Nat) : Bool := (List.range (l.length + 1)).any fun i => (l.drop i).take b.length == b
theorem hasB_iff (l b : List Nat) : hasB l b = true ↔ ∃ i, i ≤ l.length ∧ (l.drop i).take b.length = b := by
  unfold hasB
  rw [List.any_eq_true]
  constructor
  · rintro ⟨i, hi, h⟩
    exact ⟨i, by have := List.mem_range.1 hi; omega, by simpa using h⟩
  · rintro ⟨i, hi, h⟩
    exact ⟨i, List.mem_range.2 (by omega), by simpa using h⟩
theorem map_u8 (l : List Nat) : Lib.bytesOf (l.map fun k : Nat => (k : Int)) = l.map UInt8.ofNat := by
  unfold Lib.bytesOf
  rw [List.map_map]
  rfl
theorem u8_inj (l m : List Nat) (hl : ∀ b ∈ l, b < 256) (hm : ∀ b ∈ m, b < 256) (h : l.map UInt8.ofNat = m.map UInt8.ofNat) : l = m := by
  have := congrArg (List.map UInt8.toNat) h
  rw [List.map_map, List.map_map] at this
  rw [List.map_congr_left (g := id) (fun b hb => by simp [Nat.mod_eq_of_lt (hl b hb)]), List.map_congr_left (l := m) (g := id) (fun b hb => by simp [Nat.mod_eq_of_lt (hm b hb)])] at this
  simpa using this
theorem occ_iff (l b : List Nat) (hl : ∀ x ∈ l, x < 256) (hb : ∀ x ∈ b, x < 256) (i : Nat) : Lib.occAt (l.map UInt8.ofNat) (b.map UInt8.ofNat) i = true ↔ (l.drop i).take b.length = b := by
  unfold Lib.occAt
  rw [List.isPrefixOf_iff_prefix, List.prefix_iff_eq_take, List.length_map, ← List.map_drop, ← List.map_take]
  constructor
  · intro h
    exact (u8_inj _ _ hb (fun x hx => hl x (List.mem_of_mem_drop (List.mem_of_mem_take hx))) h).symm
  · intro h
    rw [h]
theorem contains_has (l b : List Nat) (hl : ∀ x ∈ l, x < 256) (hb : ∀ x ∈ b, x < 256) :
    Lib.contains (Lib.bytesOf (l.map fun k : Nat => (k : Int))) (Lib.bytesOf (b.map fun k : Nat => (k : Int))) = hasB l b := by
  rw [map_u8, map_u8]
  unfold Lib.contains
  rw [Bool.eq_iff_iff, hasB_iff, decide_eq_true_eq]
  rcases Lib.index_spec (l.map UInt8.ofNat) (b.map UInt8.ofNat) with ⟨h1, h2⟩ | ⟨i, h1, h2, h3, h4⟩
  · rw [h1]
    constructor
    · intro h; omega
    · rintro ⟨i, hi, h⟩
      have := h2 i (by simpa using hi)
      rw [(occ_iff l b hl hb i).2 h] at this
      cases this
  · rw [h1]
    constructor
    · intro _
      exact ⟨i, by simpa using h2, (occ_iff l b hl hb i).1 h3⟩
    · intro _; omega
end Go.Proofs.YtkapkbiccppldaaGreatDoor

/- The library's bytes.Contains at this program. -/
namespace Go.Proofs.YtkapkbiccppldaaGreatDoor
set_option linter.unusedVariables false
set_option linter.unusedSimpArgs false
open Go.Shelf
def bytesRen : Go.Shelf.Ren := ⟨fun | 186 => 226 | 185 => 256 | 187 => 261 | 115 => 262 | 253 => 263 | 224 => 264 | 254 => 265 | 255 => 266 | 291 => 267 | n => n, fun | 37 => 44 | 4 => 4 | 3 => 3 | 0 => 0 | 5 => 5 | 46 => 248 | 9 => 9 | 146 => 249 | 51 => 74 | n => n, fun | 1 => 5 | n => n⟩
theorem bytesLays : Go.Proofs.LaysM.n186 Tryz.prog bytesRen := {
  mixed := by kernel_rfl
  f115 := Tryz.func262.trans (congrArg some (by kernel_rfl))
  f185 := Tryz.func256.trans (congrArg some (by kernel_rfl))
  f186 := Tryz.func226.trans (congrArg some (by kernel_rfl))
  f187 := Tryz.func261.trans (congrArg some (by kernel_rfl))
  f224 := Tryz.func264.trans (congrArg some (by kernel_rfl))
  f253 := Tryz.func263.trans (congrArg some (by kernel_rfl))
  f254 := Tryz.func265.trans (congrArg some (by kernel_rfl))
  f255 := Tryz.func266.trans (congrArg some (by kernel_rfl))
  f291 := Tryz.func267.trans (congrArg some (by kernel_rfl))
  t0 := Tryz.underlying0
  a0 := Tryz.isAgg0
  z0 := Tryz.sizeOf0
  v0 := Tryz.zeroValue0
  t3 := Tryz.underlying3
  a3 := Tryz.isAgg3
  z3 := Tryz.sizeOf3
  v3 := Tryz.zeroValue3
  t4 := Tryz.underlying4
  a4 := Tryz.isAgg4
  z4 := Tryz.sizeOf4
  v4 := Tryz.zeroValue4
  t5 := Tryz.underlying5
  a5 := Tryz.isAgg5
  z5 := Tryz.sizeOf5
  v5 := Tryz.zeroValue5
  t9 := Tryz.underlying9
  a9 := Tryz.isAgg9
  z9 := Tryz.sizeOf9
  v9 := Tryz.zeroValue9
  t37 := Tryz.underlying44
  a37 := Tryz.isAgg44
  z37 := Tryz.sizeOf44
  v37 := Tryz.zeroValue44
  t46 := Tryz.underlying248
  a46 := Tryz.isAgg248
  z46 := Tryz.sizeOf248
  v46 := Tryz.zeroValue248
  t51 := Tryz.underlying74
  a51 := Tryz.isAgg74
  z51 := Tryz.sizeOf74
  v51 := Tryz.zeroValue74
  t146 := Tryz.underlying249
  a146 := Tryz.isAgg249
  z146 := Tryz.sizeOf249
  v146 := Tryz.zeroValue249
  g1 := by kernel_rfl
  i0 := by kernel_rfl
  i3 := by kernel_rfl
  i4 := by kernel_rfl
  i5 := by kernel_rfl
  i9 := by kernel_rfl
  i37 := by kernel_rfl
  i46 := by kernel_rfl
  i51 := by kernel_rfl
  i146 := by kernel_rfl
  m1 := by kernel_rfl
  s1_3 := fun w h => Go.Proofs.cell_of_shapedOpen_int (zero := #[.int .i64 0]) (t := 3) h (of_decide_eq_true (by kernel_rfl)) (by kernel_rfl) rfl (by kernel_rfl) (by kernel_rfl) Tryz.underlying3 }
end Go.Proofs.YtkapkbiccppldaaGreatDoor

/- Package arena: Has. -/
namespace Go.Proofs.YtkapkbiccppldaaGreatDoor
set_option linter.unusedVariables false
set_option linter.unusedSimpArgs false
open Go.RowKit

theorem mapGetD (l : List Nat) (i : Nat) : (l.map fun k : Nat => (k : Int)).getD i 0 = ((l[i]?.getD 0 : Nat) : Int) := by
  rw [List.getD_eq_getElem?_getD, List.getElem?_map]
  rcases l[i]? with _ | y <;> rfl
theorem addA (g o i : Nat) : (⟨g, o, none⟩ : Addr).add i = ⟨g, o + i, none⟩ := by unfold Addr.add; split <;> simp_all

theorem contains_any (w : World) (g cap : Nat) (l : List Nat) (h : RowB w g cap l) (hb : ∀ b ∈ l, b < 256) (hl : l.length ≤ 1048576) (a : Option Addr) (c : Nat) (m : List Nat) (hm : Byt w a m)
    (ml : Int) (hml : w.cell? ⟨5, 0, none⟩ = some (.int .i64 ml)) :
    Calls Tryz.prog 226 #[.slice (some ⟨g, 0, none⟩) l.length cap, .slice a m.length c] w fun e w' => e = .returned (.bool (hasB l m)) ∧ ∃ q, w' = w.drewN q := by
  by_cases h0 : m = []
  · subst h0
    have e : hasB l [] = true := (hasB_iff l []).2 ⟨0, Nat.zero_le _, rfl⟩
    rw [e]
    exact (Any.bytes_Contains_none (P := Tryz.prog) (ρ := bytesRen) { bytesLays with } (some ⟨g, 0, none⟩) a l.length cap c w).mono fun e w' ⟨h1, h2⟩ => ⟨h1, 0, h2⟩
  · obtain ⟨ga, oa, rfl, _, _⟩ := hm.at_ 0 (List.length_pos_iff.2 h0)
    have key := Any.bytes_Contains_at (P := Tryz.prog) (ρ := bytesRen) { bytesLays with } ⟨g, 0, none⟩ ⟨ga, oa, none⟩ l.length cap m.length c (l.map fun k : Nat => (k : Int)) (m.map fun k : Nat => (k : Int)) ml w (by simp) (by simp)
      (fun x hx => by obtain ⟨y, hy, rfl⟩ := List.mem_map.1 hx; have := hb y hy; omega) (fun x hx => by obtain ⟨y, hy, rfl⟩ := List.mem_map.1 hx; have := hm.byte y hy; omega)
      (fun i hi => by rw [addA, mapGetD, Nat.zero_add]; exact h.cell i hi)
      (fun i hi => by
        obtain ⟨g', o', e, hc, _⟩ := hm.at_ i hi
        injection e with e
        injection e with e1 e2
        subst e1 e2
        rw [addA, mapGetD]; exact hc) h.le (by omega) (by have := hm.len; omega) hml
    rw [contains_has l m hb hm.byte] at key
    exact key

theorem ahas_any (w : World) (p g cap : Nat) (l : List Nat) (h : IsA w p g cap l) (a : Option Addr) (c : Nat) (m : List Nat) (hm : Byt w a m) (ml : Int) (hml : w.cell? ⟨5, 0, none⟩ = some (.int .i64 ml)) :
    Calls Tryz.prog 160 #[.pointer (some ⟨p, 0, none⟩), .slice a m.length c] w fun e w' => e = .returned (.bool (hasB l m)) ∧ Fr [] w w' := by
  have hn := h.none
  have hk := contains_any w g cap l h.row h.byte h.len a c m hm ml hml
  have hc := h.st.cell 0
  simp at hc
  generalize hasB l m = r at *
  generalize l.length = n at *
  generalize m.length = k at *
  clear h hm
  go_enter Tryz.func160, Tryz.ntmps160
  go_wp2_with fail
  with_reducible refine hn.mono ?_
  rintro e w' ⟨rfl, rfl⟩
  go_wp2_with fail
  with_reducible refine hk.mono ?_
  rintro e w' ⟨rfl, q, rfl⟩
  go_wp2_with fail
  go_ret
  exact ⟨rfl, (Fr.refl [] _).drewN _⟩
end Go.Proofs.YtkapkbiccppldaaGreatDoor
