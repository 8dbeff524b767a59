/- Several texts in one. -/
import Derived.Test.YtgoogihfggndpaaGreatDoorGN
import Derived.Laws.StructEq
import Derived.Test.YtgoogihfggndpaaGreatDoorGJ
import Derived.Test.YtgoogihfggndpaaGreatDoorKT
import Derived.Deep.RegionHeld3
/- Layer 16 in plain words: runs of whole numbers (joined, tiles, at); the map of an image. -/
namespace Go.Proofs.YtgoogihfggndpaaGreatDoor
set_option linter.unusedVariables false
set_option linter.unusedSimpArgs false
open Go.RowKit

abbrev Rz := Int × Int × Int
def zCells (l : List Rz) : List Value := l.flatMap fun r => [.int .i64 r.1, .int .i64 r.2.1, .int .i64 r.2.2]
def zOf (r : Rn) : Rz := ((r.1 : Int), (r.2.1 : Int), (r.2.2 : Int))
theorem zCells_of : ∀ l : List Rn, zCells (l.map zOf) = rCells l
  | [] => rfl
  | r :: l => by
    have := zCells_of l
    simp only [zCells, rCells, List.map_cons, List.flatMap_cons] at this ⊢
    rw [this]; rfl
theorem zCells_len (l : List Rz) : (zCells l).length = 3 * l.length := by
  induction l with
  | nil => rfl
  | cons r l ih => simp only [zCells, List.flatMap_cons, List.length_append, List.length_cons, List.length_nil] at ih ⊢; rw [ih]; omega
theorem zCells_snoc (l : List Rz) (r : Rz) : zCells (l ++ [r]) = zCells l ++ [.int .i64 r.1, .int .i64 r.2.1, .int .i64 r.2.2] := by simp [zCells]
theorem zCells_get : ∀ (l : List Rz) (i : Nat) (r : Rz), l[i]? = some r → (zCells l)[i * 3]? = some (.int .i64 r.1) ∧ (zCells l)[i * 3 + 1]? = some (.int .i64 r.2.1) ∧ (zCells l)[i * 3 + 2]? = some (.int .i64 r.2.2)
  | [], i, r, h => by simp at h
  | x :: l, 0, r, h => by simp at h; subst h; exact ⟨rfl, rfl, rfl⟩
  | x :: l, i + 1, r, h => by
    have e : ∀ k, (zCells (x :: l))[(i + 1) * 3 + k]? = (zCells l)[i * 3 + k]? := fun k => by
      have : (i + 1) * 3 + k = (i * 3 + k) + 3 := by omega
      rw [this]
      simp [zCells]
    have := zCells_get l i r (by simpa using h)
    exact ⟨(e 0).trans this.1, (e 1).trans this.2.1, (e 2).trans this.2.2⟩
def prZ (r : Rz) : Bool := decide (0 ≤ r.1 ∧ r.1 ≤ 1099511627776 ∧ 0 ≤ r.2.1 ∧ r.2.1 ≤ 1099511627776)
/-- Does a run go on with another one's kind? -/
def folZ (x r : Rz) : Bool := prZ x && prZ r && x.2.2 == r.2.2 && x.1 + x.2.1 == r.1
def jstep (out : List Rz) (r : Rz) : List Rz := match out.getLast? with
  | some x => if folZ x r then out.dropLast ++ [(x.1, x.2.1 + r.2.1, x.2.2)] else out ++ [r]
  | none => [r]
def joinZ (l : List Rz) : List Rz := l.foldl jstep []
theorem jstep_nil (r : Rz) : jstep [] r = [r] := rfl
theorem jstep_snoc (l : List Rz) (x r : Rz) : jstep (l ++ [x]) r = if folZ x r then l ++ [(x.1, x.2.1 + r.2.1, x.2.2)] else l ++ [x] ++ [r] := by simp [jstep]
def tileZ : List Rz → Int → Int → Bool
  | [], e, n => e == n
  | r :: l, e, n => if prZ r && r.1 == e && decide (1 ≤ r.2.1) && decide (1 ≤ r.2.2) && decide (r.2.2 ≤ 8) then tileZ l (e + r.2.1) n else false
def inZ (r : Rz) (x : Int) : Bool := prZ r && decide (r.1 ≤ x) && decide (x - r.1 < r.2.1)
def atZ : List Rz → Int → Int
  | [], _ => 0
  | r :: l, x => if inZ r x then r.2.2 else atZ l x

/-! ### the map of an image -/
def imN (l : List Nat) (x k : Nat) : Nat := ldTo l x k
/-- The block of a slab that begins there. -/
def idxN (b c f : Nat) : Option Nat := if b ≤ f ∧ (f - b) % csz c = 0 ∧ (f - b) / csz c < nbk c then some ((f - b) / csz c) else none
/-- The blocks to which links lead, from a place on (those that were met before: seen). -/
def chaseL (l : List Nat) (b c : Nat) : Nat → Nat → List Nat → Option (List Nat)
  | 0, _, _ => none
  | n + 1, f, seen => if f = 0 then some seen else match idxN b c f with
    | none => none
    | some k => if k ∈ seen then none else chaseL l b c n (imN l (f + 4) 4) (k :: seen)
def blkM (b c : Nat) (seen : List Nat) (k : Nat) : Rn := (b + csz c * k, csz c, if k ∈ seen then 6 else 5)
def padM (b c : Nat) : List Rn := if 0 < cpad c then [(b + 1024 - cpad c, cpad c, 8)] else []
def zeroM (l : List Nat) (b : Nat) : Bool := ((l.drop b).take 1024).all (· == 0)
/-- What is live and free in a slab. -/
def slabM (l : List Nat) (h b : Nat) : Option (List Rn) :=
  if 9 < imN l h 2 then none
  else if imN l h 2 = 0 then (if imN l (h + 2) 2 = 0 ∧ imN l (h + 4) 4 = 0 ∧ zeroM l b = true then some [(b, 1024, 7)] else none)
  else match chaseL l b (imN l h 2) (nbk (imN l h 2) + 1) (imN l (h + 4) 4) [] with
    | none => none
    | some seen => if seen.length = nbk (imN l h 2) ∨ imN l (h + 2) 2 ≠ nbk (imN l h 2) - seen.length then none
      else some ((List.range (nbk (imN l h 2))).map (blkM b (imN l h 2) seen) ++ padM b (imN l h 2))
/-- The runs of the first n slabs behind those ahead of them. -/
def slabsM (l : List Nat) (a s : Nat) : Nat → Option (List Rn)
  | 0 => some (rrun5 a s)
  | n + 1 => match slabsM l a s n with
    | none => none
    | some rs => match slabM l (hdAt n) (lbase a s + 1024 * n) with
      | none => none
      | some r => some (rs ++ r)
def mapM16 (l : List Nat) (a s : Nat) : Option (List Rz) := match slabsM l a s a with
  | none => none
  | some rs => some (joinZ (rs.map zOf))

theorem idxN_lt {b c f k : Nat} (h : idxN b c f = some k) : k < nbk c ∧ f = b + csz c * k := by
  unfold idxN at h
  split at h
  · rename_i hh
    obtain rfl : (f - b) / csz c = k := by simpa using h
    refine ⟨hh.2.2, ?_⟩
    have := Nat.div_add_mod (f - b) (csz c)
    omega
  · cases h
/-- A slab that fits links well: they lead through all free blocks. -/
theorem chase_ok {l : List Nat} {b c : Nat} (hc : 1 ≤ c ∧ c ≤ 9) : ∀ (F : List Nat) (n : Nat) (seen : List Nat), F.length < n → (∀ y ∈ F, ∃ k, k < nbk c ∧ y = b + csz c * k ∧ k ∉ seen ∧ 0 < y) → F.Nodup →
    (∀ j, (h : j < F.length) → imN l (F[j] + 4) 4 = F[j + 1]?.getD 0) → ∃ ks, chaseL l b c n (F.headD 0) seen = some (ks ++ seen) ∧ ks.length = F.length ∧ ∀ k, k ∈ ks ↔ (b + csz c * k) ∈ F ∧ k < nbk c
  | [], n, seen, hn, hF, hd, hl => by
    obtain ⟨n, rfl⟩ : ∃ m, n = m + 1 := ⟨n - 1, by simp at hn; omega⟩
    exact ⟨[], by simp [chaseL], rfl, fun k => by simp⟩
  | y :: F, n, seen, hn, hF, hd, hl => by
    have ht := csz_tab c hc.1 hc.2
    obtain ⟨n, rfl⟩ : ∃ m, n = m + 1 := ⟨n - 1, by simp at hn; omega⟩
    obtain ⟨k, hk, hy, hs, h0⟩ := hF y (by simp)
    have hnx : imN l (y + 4) 4 = F.headD 0 := by
      have := hl 0 (by simp)
      simp only [List.getElem_cons_zero, List.getElem?_cons_succ] at this
      rw [this]; cases F <;> rfl
    rw [List.nodup_cons] at hd
    have hi : idxN b c y = some k := by
      have e0 : y - b = csz c * k := by omega
      unfold idxN
      rw [e0, Nat.mul_mod_right, Nat.mul_div_cancel_left _ (by omega), if_pos ⟨by omega, rfl, hk⟩]
    have inj : ∀ m, b + csz c * m = y → m = k := fun m hm => Nat.eq_of_mul_eq_mul_left (show 0 < csz c by omega) (by omega)
    obtain ⟨ks, h1, h2, h3⟩ := chase_ok hc F n (k :: seen) (by simp at hn; omega) (fun z hz => by
      obtain ⟨m, hm, hzm, hms, hz0⟩ := hF z (by simp [hz])
      refine ⟨m, hm, hzm, ?_, hz0⟩
      rw [List.mem_cons]
      rintro (rfl | h)
      · exact hd.1 (by rw [hy, ← hzm]; exact hz)
      · exact hms h) hd.2 (fun j hj => by
        have := hl (j + 1) (by simp; omega)
        simpa using this)
    refine ⟨ks ++ [k], ?_, by simp [h2], fun m => ?_⟩
    · rw [List.headD_cons, chaseL, if_neg (by omega), hi]
      show (if k ∈ seen then none else _) = _
      rw [if_neg hs, hnx, h1, List.append_assoc]; rfl
    · rw [List.mem_append, h3, List.mem_singleton, List.mem_cons]
      constructor
      · rintro (⟨h, h'⟩ | rfl)
        · exact ⟨.inr h, h'⟩
        · exact ⟨.inl (by omega), hk⟩
      · rintro ⟨h | h, h'⟩
        · exact .inr (inj m h)
        · exact .inl ⟨h, h'⟩
end Go.Proofs.YtgoogihfggndpaaGreatDoor

/- Runs of whole numbers: may be, follows, tiles, at (region and the document). -/
namespace Go.Proofs.YtgoogihfggndpaaGreatDoor
set_option linter.unusedVariables false
set_option linter.unusedSimpArgs false
open Go.RowKit

/-- Runs that lie in a row. -/
structure ZB (w : World) (a : Option Addr) (l : List Rz) : Prop where
  row : 0 < l.length → ∃ g o, a = some ⟨g, o, none⟩ ∧ g < w.heap.size ∧ ∀ i r, l[i]? = some r → w.cell? ⟨g, o + i * 3, none⟩ = some (.int .i64 r.1) ∧ w.cell? ⟨g, o + i * 3 + 1, none⟩ = some (.int .i64 r.2.1) ∧ w.cell? ⟨g, o + i * 3 + 2, none⟩ = some (.int .i64 r.2.2)
  len : l.length ≤ 1048576
theorem ZB.fr {w w' : World} {a : Option Addr} {l : List Rz} {S : List Nat} (h : ZB w a l) (hf : Fr S w w') (hS : ∀ g o, a = some ⟨g, o, none⟩ → g ∉ S) : ZB w' a l := by
  refine ⟨fun h0 => ?_, h.len⟩
  obtain ⟨g, o, ha, hg, hr⟩ := h.row h0
  have hn := hS g o ha
  refine ⟨g, o, ha, Nat.lt_of_lt_of_le hg hf.size, fun i r hi => ?_⟩
  obtain ⟨e1, e2, e3⟩ := hr i r hi
  exact ⟨(hf.cell hg hn).trans e1, (hf.cell hg hn).trans e2, (hf.cell hg hn).trans e3⟩
theorem ZB.fr0 {w w' : World} {a : Option Addr} {l : List Rz} (h : ZB w a l) (hf : Fr [] w w') : ZB w' a l := h.fr hf (by simp)

theorem zis (w : World) (x n k : Int) : Calls Tryz.prog 103 #[.agg #[.int .i64 x, .int .i64 n, .int .i64 k]] w fun e w' => e = .returned (.bool (prZ (x, n, k))) ∧ Fr [] w w' := by
  obtain ⟨p1, h1⟩ : ∃ b, decide (0 ≤ x) = b := ⟨_, rfl⟩
  obtain ⟨p2, h2⟩ : ∃ b, decide (x ≤ 1099511627776) = b := ⟨_, rfl⟩
  obtain ⟨p3, h3⟩ : ∃ b, decide (0 ≤ n) = b := ⟨_, rfl⟩
  obtain ⟨p4, h4⟩ : ∃ b, decide (n ≤ 1099511627776) = b := ⟨_, rfl⟩
  have e : prZ (x, n, k) = (p1 && (p2 && (p3 && p4))) := by rw [prZ, ← h1, ← h2, ← h3, ← h4]; simp only [Bool.decide_and]
  rw [e]
  clear e
  cases p1
  · go_enter Tryz.func103, Tryz.ntmps103
    go_wp2_with fail
    go_ret
    exact ⟨rfl, (Fr.refl [] w).alloc _⟩
  cases p2
  · go_enter Tryz.func103, Tryz.ntmps103
    go_wp2_with fail
    go_ret
    exact ⟨rfl, (Fr.refl [] w).alloc _⟩
  cases p3
  · go_enter Tryz.func103, Tryz.ntmps103
    go_wp2_with fail
    go_ret
    exact ⟨rfl, (Fr.refl [] w).alloc _⟩
  cases p4
  all_goals
    go_enter Tryz.func103, Tryz.ntmps103
    go_wp2_with fail
    go_ret
    exact ⟨rfl, (Fr.refl [] w).alloc _⟩
theorem xis16 (w : World) (x n k : Int) : Calls Tryz.prog 188 #[.agg #[.int .i64 x, .int .i64 n, .int .i64 k]] w fun e w' => e = .returned (.bool (prZ (x, n, k))) ∧ Fr [] w w' := by
  obtain ⟨p1, h1⟩ : ∃ b, decide (0 ≤ x) = b := ⟨_, rfl⟩
  obtain ⟨p2, h2⟩ : ∃ b, decide (x ≤ 1099511627776) = b := ⟨_, rfl⟩
  obtain ⟨p3, h3⟩ : ∃ b, decide (0 ≤ n) = b := ⟨_, rfl⟩
  obtain ⟨p4, h4⟩ : ∃ b, decide (n ≤ 1099511627776) = b := ⟨_, rfl⟩
  have e : prZ (x, n, k) = (p1 && (p2 && (p3 && p4))) := by rw [prZ, ← h1, ← h2, ← h3, ← h4]; simp only [Bool.decide_and]
  rw [e]
  clear e
  cases p1
  · go_enter Tryz.func188, Tryz.ntmps188
    go_wp2_with fail
    go_ret
    exact ⟨rfl, (Fr.refl [] w).alloc _⟩
  cases p2
  · go_enter Tryz.func188, Tryz.ntmps188
    go_wp2_with fail
    go_ret
    exact ⟨rfl, (Fr.refl [] w).alloc _⟩
  cases p3
  · go_enter Tryz.func188, Tryz.ntmps188
    go_wp2_with fail
    go_ret
    exact ⟨rfl, (Fr.refl [] w).alloc _⟩
  cases p4
  all_goals
    go_enter Tryz.func188, Tryz.ntmps188
    go_wp2_with fail
    go_ret
    exact ⟨rfl, (Fr.refl [] w).alloc _⟩
theorem prZ_b {x n k : Int} (h : prZ (x, n, k) = true) : 0 ≤ x ∧ x ≤ 1099511627776 ∧ 0 ≤ n ∧ n ≤ 1099511627776 := by simpa [prZ] using h
theorem zfol (w : World) (x n k y m j : Int) : Calls Tryz.prog 237 #[.agg #[.int .i64 x, .int .i64 n, .int .i64 k], .agg #[.int .i64 y, .int .i64 m, .int .i64 j]] w fun e w' => e = .returned (.bool (folZ (x, n, k) (y, m, j))) ∧ Fr [] w w' := by
  have hi1 := fun W => zis W x n k
  have hi2 := fun W => zis W y m j
  have B1 := Lib.hid (((Blk.new w 84 #[.int .i64 x, .int .i64 n, .int .i64 k]).alloc (.cells #[.int .i64 y, .int .i64 m, .int .i64 j] 84)))
  have B2 := Lib.hid (Blk.new (w.alloc (.cells #[.int .i64 x, .int .i64 n, .int .i64 k] 84)) 84 #[.int .i64 y, .int .i64 m, .int .i64 j])
  have F0 := Lib.hid (((Fr.refl [] w).alloc (.cells #[.int .i64 x, .int .i64 n, .int .i64 k] 84)).alloc (.cells #[.int .i64 y, .int .i64 m, .int .i64 j] 84))
  have e : folZ (x, n, k) (y, m, j) = (prZ (x, n, k) && (prZ (y, m, j) && (k == j && x + n == y))) := by simp [folZ, Bool.and_assoc]
  rw [e]
  clear e
  have hb : prZ (x, n, k) = true → IntKind.i64.wrap (x + n) = x + n := fun h => IntWalk.i64_in _ (by have := prZ_b h; omega)
  generalize prZ (x, n, k) = p1 at *
  generalize prZ (y, m, j) = p2 at *
  cases p1
  · clear hb
    go_enter Tryz.func237, Tryz.ntmps237
    go_wp2_with fail
    with_reducible refine (hi1 _).mono ?_
    rintro e w1 ⟨rfl, f1⟩
    go_wp2_with fail
    go_ret
    exact ⟨rfl, F0.out.trans f1⟩
  cases p2
  · clear hb
    go_enter Tryz.func237, Tryz.ntmps237
    go_wp2_with fail
    with_reducible refine (hi1 _).mono ?_
    rintro e w1 ⟨rfl, f1⟩
    have c0 := (B2.out.fr f1 (by simp)).cell 0
    have c1 := (B2.out.fr f1 (by simp)).cell 1
    have c2 := (B2.out.fr f1 (by simp)).cell 2
    simp at c0 c1 c2
    go_wp2_with fail
    with_reducible refine (hi2 _).mono ?_
    rintro e w2 ⟨rfl, f2⟩
    go_wp2_with fail
    go_ret
    exact ⟨rfl, (F0.out.trans f1).trans f2⟩
  have hw := hb rfl
  clear hb
  obtain ⟨q1, h1⟩ : ∃ b, (k == j) = b := ⟨_, rfl⟩
  obtain ⟨q2, h2⟩ : ∃ b, (x + n == y) = b := ⟨_, rfl⟩
  rw [h1, h2]
  have h1' : (j == k) = q1 := by rw [← h1, Bool.beq_comm]
  have h2' : (y == x + n) = q2 := by rw [← h2, Bool.beq_comm]
  go_enter Tryz.func237, Tryz.ntmps237
  go_wp2_with fail
  with_reducible refine (hi1 _).mono ?_
  rintro e w1 ⟨rfl, f1⟩
  have c0 := (B2.out.fr f1 (by simp)).cell 0
  have c1 := (B2.out.fr f1 (by simp)).cell 1
  have c2 := (B2.out.fr f1 (by simp)).cell 2
  simp at c0 c1 c2
  go_wp2_with fail
  with_reducible refine (hi2 _).mono ?_
  rintro e w2 ⟨rfl, f2⟩
  have d0 := (B2.out.fr (f1.trans f2) (by simp)).cell 0
  have d1 := (B2.out.fr (f1.trans f2) (by simp)).cell 1
  have d2 := (B2.out.fr (f1.trans f2) (by simp)).cell 2
  have a0 := (B1.out.fr (f1.trans f2) (by simp)).cell 0
  have a1 := (B1.out.fr (f1.trans f2) (by simp)).cell 1
  have a2 := (B1.out.fr (f1.trans f2) (by simp)).cell 2
  simp at d0 d1 d2 a0 a1 a2
  clear c0 c1 c2 h1 h2
  cases q1 <;> cases q2
  all_goals
    go_wp2_with fail
    go_ret
    exact ⟨rfl, (F0.out.trans f1).trans f2⟩
end Go.Proofs.YtgoogihfggndpaaGreatDoor

/- Runs of whole numbers: tiles (region and the document). -/
namespace Go.Proofs.YtgoogihfggndpaaGreatDoor
set_option linter.unusedVariables false
set_option linter.unusedSimpArgs false
open Go.RowKit

theorem drop_at {α : Type} {l : List α} {k : Nat} {r : α} (h : l[k]? = some r) : l.drop k = r :: l.drop (k + 1) := by
  obtain ⟨hk, rfl⟩ := List.getElem?_eq_some_iff.1 h
  exact List.drop_eq_getElem_cons hk
theorem drop_end {α : Type} {l : List α} {N : Nat} (h : l.length = N) : l.drop N = [] := List.drop_eq_nil_of_le (by omega)
set_option maxRecDepth 100000 in
set_option maxHeartbeats 2000000 in
theorem ztiles (w : World) (a : Option Addr) (c : Nat) (l : List Rz) (h : ZB w a l) (n : Int) : Calls Tryz.prog 42 #[.slice a l.length c, .int .i64 n] w fun e w' => e = .returned (.bool (tileZ l 0 n)) ∧ Fr [] w w' := by
  have HI := Lib.hid (fun W x m j => zis W x m j)
  have HZ := Lib.hid h
  have hlen := h.len
  clear h
  generalize hN : l.length = N at *
  have HN := Lib.hid hN
  obtain ⟨T, hT⟩ : ∃ T, tileZ l 0 n = T := ⟨_, rfl⟩
  rw [hT]
  have HT := Lib.hid hT
  clear hN hT
  go_enter Tryz.func42, Tryz.ntmps42
  go_wp2_with fail
  go_loopw [5, 10] (fun u v W => ∃ (k : Nat) (e : Int), k ≤ N ∧ v = .int .i64 k ∧ u = .int .i64 e ∧ 0 ≤ e ∧ e ≤ 2199023255552 ∧ tileZ (l.drop k) e n = T ∧ Fr [] w W) (fun _ v _ => N - (intOf v).toNat)
  case atStart => exact ⟨0, 0, by omega, rfl, rfl, by omega, by omega, HT.out, Fr.refl _ _⟩
  case round =>
    obtain ⟨k, e, hk, rfl, rfl, he0, he1, ht, hF⟩ := hrel
    have HF := Lib.hid hF
    clear hF HT
    by_cases hlt : k < N
    · obtain ⟨⟨x, m, j⟩, hr⟩ : ∃ r, l[k]? = some r := ⟨_, List.getElem?_eq_getElem (by rw [HN.out]; exact hlt)⟩
      obtain ⟨g, o, rfl, hg, hc⟩ := (HZ.out.fr0 HF.out).row (by rw [HN.out]; omega)
      obtain ⟨c0, c1, c2⟩ := hc k _ hr
      rw [drop_at hr, tileZ] at ht
      simp only at c0 c1 c2 ht
      have hi := fun W => HI.out W x m j
      have hb := Lib.hid (@prZ_b x m j)
      have b0 : decide ((k : Int) < N) = true := by simp; omega
      have b0' : decide (k < N) = true := by simp; omega
      have wk : IntKind.i64.wrap ((k : Int) + 1) = (k : Int) + 1 := IntWalk.i64_in _ (by omega)
      have i0 : (0 : Int) ≤ k := by omega
      have i1 : (k : Int) < N := by omega
      clear hc hr HI
      generalize prZ (x, m, j) = p at *
      cases p
      · have ht : T = false := by rw [← ht]; simp
        subst ht
        go_wp2_with fail
        with_reducible refine (hi _).mono ?_
        rintro e w1 ⟨rfl, f1⟩
        go_wp2_with fail
        go_ret
        exact ⟨rfl, (HF.out.alloc _).trans f1⟩
      · obtain ⟨h1, h2, h3, h4⟩ := hb.out rfl
        obtain ⟨q1, e1⟩ : ∃ b, (x == e) = b := ⟨_, rfl⟩
        have e1' : (x != e) = !q1 := by rw [bne, e1]
        obtain ⟨q2, e2⟩ : ∃ b, (m == 0) = b := ⟨_, rfl⟩
        obtain ⟨q3, e3⟩ : ∃ b, decide (j ≤ 0) = b := ⟨_, rfl⟩
        obtain ⟨q4, e4⟩ : ∃ b, decide (8 < j) = b := ⟨_, rfl⟩
        have ht : (if q1 && (!q2 && (!q3 && !q4)) then tileZ (l.drop (k + 1)) (e + m) n else false) = T := by
          rw [← ht, ← e1, ← e2, ← e3, ← e4]
          congr 1
          simp only [Bool.true_and, Bool.and_assoc]
          rw [eq_iff_iff]
          simp only [Bool.and_eq_true, beq_iff_eq, Bool.not_eq_true', beq_eq_false_iff_ne, ne_eq, decide_eq_true_eq, decide_eq_false_iff_not]
          omega
        go_wp2_with fail
        with_reducible refine (hi _).mono ?_
        rintro e w1 ⟨rfl, f1⟩
        have d0 := ((Blk.new wr 84 #[.int .i64 x, .int .i64 m, .int .i64 j]).fr f1 (by simp)).cell 0
        have d1 := ((Blk.new wr 84 #[.int .i64 x, .int .i64 m, .int .i64 j]).fr f1 (by simp)).cell 1
        have d2 := ((Blk.new wr 84 #[.int .i64 x, .int .i64 m, .int .i64 j]).fr f1 (by simp)).cell 2
        simp at d0 d1 d2
        have HF1 := Lib.hid ((HF.out.alloc (.cells #[.int .i64 x, .int .i64 m, .int .i64 j] 84)).trans f1)
        have wm : x = e → IntKind.i64.wrap (e + m) = e + m := fun hx => IntWalk.i64_in _ (by omega)
        clear HF f1 c0 c1 c2
        have HX := Lib.hid (show q1 = true → x = e from fun hq => by rw [hq] at e1; simpa using e1)
        clear e1
        cases q1
        · have ht : T = false := by rw [← ht]; simp
          subst ht
          go_wp2_with fail
          go_ret
          exact ⟨rfl, HF1.out⟩
        have wm := wm (HX.out rfl)
        have hx := HX.out rfl
        clear HX
        cases q2
        rotate_left
        · have ht : T = false := by rw [← ht]; simp
          subst ht
          go_wp2_with fail
          go_ret
          exact ⟨rfl, HF1.out⟩
        cases q3
        rotate_left
        · have ht : T = false := by rw [← ht]; simp
          subst ht
          go_wp2_with fail
          go_ret
          exact ⟨rfl, HF1.out⟩
        cases q4
        rotate_left
        · have ht : T = false := by rw [← ht]; simp
          subst ht
          go_wp2_with fail
          go_ret
          exact ⟨rfl, HF1.out⟩
        have ht : tileZ (l.drop (k + 1)) (e + m) n = T := by rw [← ht]; simp
        have h0 : 0 ≤ e + m ∧ e + m ≤ 2199023255552 := by omega
        clear hx
        go_wp2_with fail
        go_roundw
        case rel => exact ⟨k + 1, e + m, by omega, by go_num, by go_num, h0.1, h0.2, ht, HF1.out⟩
        case measure => simp [intOf]; omega
    · obtain rfl : k = N := by omega
      have b0 : decide ((k : Int) < k) = false := by simp
      have b0' : decide (k < k) = false := by simp
      rw [drop_end HN.out, tileZ] at ht
      have e1 : (e == n) = T := ht
      go_wp2_with fail
      go_ret
      exact ⟨by rw [← e1]; rfl, HF.out⟩
end Go.Proofs.YtgoogihfggndpaaGreatDoor

/- Runs of whole numbers: the first that has a place (region). -/
namespace Go.Proofs.YtgoogihfggndpaaGreatDoor
set_option linter.unusedVariables false
set_option linter.unusedSimpArgs false
open Go.RowKit

theorem zat1 (w : World) (x m j y : Int) (B : Nat) (hy : y ≤ 9223372036854775807) (hB : Blk w B 3 #[.int .i64 y]) : Calls Tryz.prog 105 #[.agg #[.int .i64 x, .int .i64 m, .int .i64 j], .pointer (some ⟨B, 0, none⟩)] w fun e w' => e = .returned (.bool (inZ (x, m, j) y)) ∧ Fr [] w w' := by
  have hi := fun W => zis W x m j
  have HB1 := Lib.hid (Blk.new w 84 #[.int .i64 x, .int .i64 m, .int .i64 j])
  have HB := Lib.hid (hB.alloc (.cells #[.int .i64 x, .int .i64 m, .int .i64 j] 84))
  have F0 := Lib.hid ((Fr.refl [] w).alloc (.cells #[.int .i64 x, .int .i64 m, .int .i64 j] 84))
  have hb := Lib.hid (@prZ_b x m j)
  have e : inZ (x, m, j) y = (prZ (x, m, j) && (decide (x ≤ y) && decide (y - x < m))) := by simp [inZ, Bool.and_assoc]
  rw [e]
  clear e hB
  generalize prZ (x, m, j) = p at *
  obtain ⟨q1, e1⟩ : ∃ b, decide (x ≤ y) = b := ⟨_, rfl⟩
  obtain ⟨q2, e2⟩ : ∃ b, decide (y - x < m) = b := ⟨_, rfl⟩
  rw [e1, e2]
  have hw : p = true → q1 = true → IntKind.i64.wrap (y - x) = y - x := fun h h1 => IntWalk.i64_in _ (by
    have := hb.out h
    rw [h1] at e1
    have := of_decide_eq_true e1
    omega)
  clear hb
  cases p
  · clear hw
    go_enter Tryz.func105, Tryz.ntmps105
    go_wp2_with fail
    with_reducible refine (hi _).mono ?_
    rintro e w1 ⟨rfl, f1⟩
    go_wp2_with fail
    go_ret
    exact ⟨rfl, F0.out.trans f1⟩
  have hw := hw rfl
  cases q1
  · clear hw
    go_enter Tryz.func105, Tryz.ntmps105
    go_wp2_with fail
    with_reducible refine (hi _).mono ?_
    rintro e w1 ⟨rfl, f1⟩
    have d0 := (HB1.out.fr f1 (by simp)).cell 0
    have c0 := (HB.out.fr f1 (by simp)).cell 0
    simp at d0 c0
    go_wp2_with fail
    go_ret
    exact ⟨rfl, F0.out.trans f1⟩
  have hw := hw rfl
  cases q2
  all_goals
    go_enter Tryz.func105, Tryz.ntmps105
    go_wp2_with fail
    with_reducible refine (hi _).mono ?_
    rintro e w1 ⟨rfl, f1⟩
    have d0 := (HB1.out.fr f1 (by simp)).cell 0
    have d1 := (HB1.out.fr f1 (by simp)).cell 1
    have c0 := (HB.out.fr f1 (by simp)).cell 0
    simp at d0 d1 c0
    go_wp2_with fail
    go_ret
    exact ⟨rfl, F0.out.trans f1⟩
set_option maxRecDepth 100000 in
set_option maxHeartbeats 2000000 in
theorem zidx (w : World) (a : Option Addr) (c : Nat) (l : List Rz) (h : ZB w a l) (y : Int) (hy : y ≤ 9223372036854775807) (B : Nat) (hB : Blk w B 3 #[.int .i64 y]) :
    Calls Tryz.prog 104 #[.slice a l.length c, .func (.func 105) #[] #[.pointer (some ⟨B, 0, none⟩)]] w fun e w' => Fr [] w w' ∧ ((∃ (k : Nat) (r : Rz), e = .returned (.int .i64 k) ∧ l[k]? = some r ∧ atZ l y = r.2.2) ∨ (e = .returned (.int .i64 (-1)) ∧ atZ l y = 0)) := by
  have HI := Lib.hid (fun W x m j (hB : Blk W B 3 #[.int .i64 y]) => zat1 W x m j y B hy hB)
  have HZ := Lib.hid h
  have HB := Lib.hid hB
  have hlen := h.len
  clear h hB
  generalize hN : l.length = N at *
  have HN := Lib.hid hN
  obtain ⟨P, hP⟩ : ∃ P : Ending → World → Prop, P = fun e w' => Fr [] w w' ∧ ((∃ (k : Nat) (r : Rz), e = .returned (.int .i64 k) ∧ l[k]? = some r ∧ atZ l y = r.2.2) ∨ (e = .returned (.int .i64 (-1)) ∧ atZ l y = 0)) := ⟨_, rfl⟩
  rw [← hP]
  have HP := Lib.hid hP
  clear hN hP
  go_enter Tryz.func104, Tryz.ntmps104
  go_wp2_with fail
  go_loopw [8] (fun v W => ∃ (k : Nat), k ≤ N ∧ v = .int .i64 k ∧ atZ (l.drop k) y = atZ l y ∧ Fr [] w W) (fun v _ => N - (intOf v).toNat)
  case atStart => exact ⟨0, by omega, rfl, rfl, Fr.refl _ _⟩
  case round =>
    obtain ⟨k, hk, rfl, ht, hF⟩ := hrel
    have HF := Lib.hid hF
    clear hF
    by_cases hlt : k < N
    · obtain ⟨⟨x, m, j⟩, hr⟩ : ∃ r, l[k]? = some r := ⟨_, List.getElem?_eq_getElem (by rw [HN.out]; exact hlt)⟩
      obtain ⟨g, o, rfl, hg, hc⟩ := (HZ.out.fr0 HF.out).row (by rw [HN.out]; omega)
      obtain ⟨c0, c1, c2⟩ := hc k _ hr
      rw [drop_at hr, atZ] at ht
      simp only at c0 c1 c2 ht
      have hi := HI.out wr x m j (HB.out.fr HF.out (by simp))
      have b0 : decide ((k : Int) < N) = true := by simp; omega
      have b0' : decide (k < N) = true := by simp; omega
      have wk : IntKind.i64.wrap ((k : Int) + 1) = (k : Int) + 1 := IntWalk.i64_in _ (by omega)
      have i0 : (0 : Int) ≤ k := by omega
      have i1 : (k : Int) < N := by omega
      have HR := Lib.hid hr
      clear hc HI hr
      generalize inZ (x, m, j) y = p at *
      have ht : (if p = true then j else atZ (l.drop (k + 1)) y) = atZ l y := ht
      cases p
      · have HT := Lib.hid (show atZ (l.drop (k + 1)) y = atZ l y by rw [← ht]; rfl)
        clear ht
        go_wp2_with fail
        with_reducible refine hi.mono ?_
        rintro e w1 ⟨rfl, f1⟩
        go_wp2_with fail
        go_roundw
        case rel => exact ⟨k + 1, by omega, by go_num, HT.out, HF.out.trans f1⟩
        case measure => simp [intOf]; omega
      · have HT := Lib.hid (show j = atZ l y by rw [← ht]; rfl)
        clear ht
        go_wp2_with fail
        with_reducible refine hi.mono ?_
        rintro e w1 ⟨rfl, f1⟩
        go_wp2_with fail
        rw [HP.out]
        exact ⟨HF.out.trans f1, .inl ⟨k, _, rfl, HR.out, HT.out.symm⟩⟩
    · obtain rfl : k = N := by omega
      have b0 : decide ((k : Int) < k) = false := by simp
      have b0' : decide (k < k) = false := by simp
      rw [drop_end HN.out, atZ] at ht
      go_wp2_with fail
      rw [HP.out]
      exact ⟨HF.out, .inr ⟨rfl, ht.symm⟩⟩
set_option maxHeartbeats 2000000 in
theorem zat (w : World) (a : Option Addr) (c : Nat) (l : List Rz) (h : ZB w a l) (y : Int) (hy : y ≤ 9223372036854775807) : Calls Tryz.prog 43 #[.slice a l.length c, .int .i64 y] w fun e w' => e = .returned (.int .i64 (atZ l y)) ∧ Fr [] w w' := by
  have hmf : ∀ (fn : Fn) (first cap : Array Value) (w : World), (Instr.makeFunc fn first cap).run Tryz.prog w = .ok (.func fn first cap) w := fun _ _ _ _ => rfl
  have F0 := (Fr.refl [] w).alloc (.cells #[.int .i64 y] 3)
  have hx := zidx _ a c l (h.fr0 F0) y hy _ (Blk.new w 3 #[.int .i64 y])
  have HF := Lib.hid F0
  have HZ := Lib.hid h
  have hlen := h.len
  clear h F0
  generalize hN : l.length = N at *
  have HN := Lib.hid hN
  clear hN
  go_enter Tryz.func43, Tryz.ntmps43
  go_wp2_with fail
  with_reducible refine hx.mono ?_
  rintro e w1 ⟨f1, ⟨k, ⟨x, m, j⟩, rfl, hr, e1⟩ | ⟨rfl, e1⟩⟩
  · have hk := (List.getElem?_eq_some_iff.1 hr).1
    rw [HN.out] at hk
    have HF1 := Lib.hid (HF.out.trans f1)
    obtain ⟨g, o, rfl, hg, hc⟩ := (HZ.out.fr0 HF1.out).row (by rw [HN.out]; omega)
    obtain ⟨c0, c1, c2⟩ := hc k _ hr
    simp only at c0 c1 c2 e1
    have E1 := Lib.hid e1
    have b0 : decide ((k : Int) < 0) = false := by simp
    have i0 : (0 : Int) ≤ k := by omega
    have i1 : (k : Int) < N := by omega
    clear hc hr e1
    go_wp2_with fail
    go_ret
    exact ⟨by rw [E1.out]; rfl, HF1.out⟩
  · have E1 := Lib.hid e1
    clear e1
    go_wp2_with fail
    go_ret
    exact ⟨by rw [E1.out]; rfl, HF.out.trans f1⟩
end Go.Proofs.YtgoogihfggndpaaGreatDoor

/- Rows of runs of whole numbers: own rows, a row's cells, append. -/
namespace Go.Proofs.YtgoogihfggndpaaGreatDoor
set_option linter.unusedVariables false
set_option linter.unusedSimpArgs false
open Go.RowKit

theorem cutZ {G H : Prop} (f : G → H) (g : G) : H := f g
def OwnZ (w : World) (base : Nat) (v : Value) (l : List Rz) : Prop := w.ownsRow base 84 3 v l.length (zCells l)
theorem OwnZ.of {w : World} {base : Nat} {v : Value} {l : List Rn} (h : OwnR w base v l) : OwnZ w base v (l.map zOf) := by
  unfold OwnZ
  rw [zCells_of, List.length_map]
  exact h
/-- A row of runs. -/
def RowZ (w : World) (g cap : Nat) (l : List Rz) : Prop := ∃ cur, Blk w g 84 cur ∧ cur.size = cap * 3 ∧ l.length ≤ cap ∧ cap ≤ maxLen ∧ cur.toList.take (l.length * 3) = zCells l
theorem RowZ.fr {w w' : World} {g cap : Nat} {l : List Rz} {S : List Nat} (h : RowZ w g cap l) (hf : Fr S w w') (hg : g ∉ S) : RowZ w' g cap l := by
  obtain ⟨cur, hb, r⟩ := h
  exact ⟨cur, hb.fr hf hg, r⟩
theorem RowZ.le {w : World} {g cap : Nat} {l : List Rz} (h : RowZ w g cap l) : l.length ≤ cap := by
  obtain ⟨cur, _, _, h, _⟩ := h
  exact h
theorem RowZ.lt {w : World} {g cap : Nat} {l : List Rz} (h : RowZ w g cap l) : g < w.heap.size := by
  obtain ⟨cur, hb, _⟩ := h
  exact hb.lt
theorem RowZ.frozen {w : World} {g cap : Nat} {l : List Rz} (h : RowZ w g cap l) (i : Nat) : w.frozen? ⟨g, i, none⟩ = false := by
  obtain ⟨cur, hb, _⟩ := h
  exact hb.frozen i
theorem RowZ.at_ {w : World} {g cap : Nat} {l : List Rz} (h : RowZ w g cap l) {j : Nat} {u : Value} (hu : (zCells l)[j]? = some u) : w.cell? ⟨g, j, none⟩ = some u := by
  obtain ⟨cur, hb, h1, h2, h3, h4⟩ := h
  have hj : j < l.length * 3 := by
    have := (List.getElem?_eq_some_iff.1 hu).1
    rw [zCells_len] at this; omega
  rw [hb.cell, ← Array.getElem?_toList, ← hu, ← h4, List.getElem?_take, if_pos hj]
theorem RowZ.cells {w : World} {g cap : Nat} {l : List Rz} (h : RowZ w g cap l) {k : Nat} {r : Rz} (hk : l[k]? = some r) : w.cell? ⟨g, k * 3, none⟩ = some (.int .i64 r.1) ∧ w.cell? ⟨g, k * 3 + 1, none⟩ = some (.int .i64 r.2.1) ∧ w.cell? ⟨g, k * 3 + 2, none⟩ = some (.int .i64 r.2.2) := by
  obtain ⟨e1, e2, e3⟩ := zCells_get l k r hk
  exact ⟨h.at_ e1, h.at_ e2, h.at_ e3⟩
theorem OwnZ.rowZ {w : World} {base : Nat} {v : Value} {l : List Rz} (h : OwnZ w base v l) (h0 : 0 < l.length) : ∃ g cap, v = .slice (some ⟨g, 0, none⟩) l.length cap ∧ base ≤ g ∧ RowZ w g cap l := by
  obtain ⟨h1, ⟨h2, h3⟩ | ⟨g, cap, cur, rfl, hb, hg, r1, r2, r3, r4⟩⟩ := h
  · omega
  · exact ⟨g, cap, rfl, hb, cur, hg, r3, r1, r2, r4⟩
theorem RowZ.own {w : World} {base g cap : Nat} {l : List Rz} (h : RowZ w g cap l) (hb : base ≤ g) : OwnZ w base (.slice (some ⟨g, 0, none⟩) l.length cap) l := by
  obtain ⟨cur, hg, r3, r1, r2, r4⟩ := h
  exact ⟨by rw [zCells_len]; omega, .inr ⟨g, cap, cur, rfl, hb, hg, r1, r2, r3, r4⟩⟩
theorem zCells_app (l m : List Rz) : zCells (l ++ m) = zCells l ++ zCells m := by simp [zCells]
theorem RowZ.setL {w : World} {g cap : Nat} {l : List Rz} {x : Rz} (h : RowZ w g cap (l ++ [x])) (m : Int) : RowZ (w.setCell ⟨g, l.length * 3 + 1, none⟩ (.int .i64 m)) g cap (l ++ [(x.1, m, x.2.2)]) := by
  obtain ⟨cur, hb, h1, h2, h3, h4⟩ := h
  rw [List.length_append, List.length_singleton] at h2 h4
  refine ⟨_, hb.set (l.length * 3 + 1) (.int .i64 m), by simpa using h1, by simpa using h2, h3, ?_⟩
  rw [List.length_append, List.length_singleton]
  rw [zCells_app] at h4 ⊢
  apply List.ext_getElem?
  intro i
  rw [Array.toList_setIfInBounds]
  have hc : ∀ i, i < (l.length + 1) * 3 → cur.toList[i]? = (zCells l ++ zCells [x])[i]? := fun i hi => by
    rw [← h4, List.getElem?_take, if_pos hi]
  rcases Nat.lt_or_ge i ((l.length + 1) * 3) with hi | hi
  · rw [List.getElem?_take, if_pos hi]
    by_cases e : i = l.length * 3 + 1
    · subst e
      rw [List.getElem?_set_self (by simp; omega), List.getElem?_append_right (by rw [zCells_len]; omega), zCells_len]
      rw [show l.length * 3 + 1 - 3 * l.length = 1 by omega]
      rfl
    · rw [List.getElem?_set_ne (fun h => e h.symm), hc i hi]
      rcases Nat.lt_or_ge i (l.length * 3) with hl | hl
      · rw [List.getElem?_append_left (by rw [zCells_len]; omega), List.getElem?_append_left (by rw [zCells_len]; omega)]
      · rw [List.getElem?_append_right (by rw [zCells_len]; omega), List.getElem?_append_right (by rw [zCells_len]; omega), zCells_len]
        rcases (by omega : i - 3 * l.length = 0 ∨ i - 3 * l.length = 2) with e2 | e2 <;> rw [e2] <;> rfl
  · rw [List.getElem?_take, if_neg (by omega), List.getElem?_eq_none (by rw [List.length_append, zCells_len, zCells_len]; simp; omega)]
theorem run_appZ (w : World) (base : Nat) (v : Value) (l : List Rz) (h : OwnZ w base v l) (g : Nat) (r : Rz) (hg : Blk w g 84 #[.int .i64 r.1, .int .i64 r.2.1, .int .i64 r.2.2]) (hl : l.length ≤ 1048576) (hbase : base ≤ w.heap.size) :
    ∃ v' w', (Builtin.append_ #[37, 37] 37 #[v, .slice (some ⟨g, 0, none⟩) 1 1]).run Tryz.prog w = .ok v' w' ∧ OwnZ w' base v' (l ++ [r]) ∧ w.grownBy w' v.ownBlock ∧ (v'.ownBlock = v.ownBlock ∨ v'.ownBlock = some w.heap.size) := by
  obtain ⟨i, hi, hz, hs, hb⟩ := info_rn'
  have hcells : ∀ j u, ([.int .i64 r.1, .int .i64 r.2.1, .int .i64 r.2.2] : List Value)[j]? = some u → w.cell? ((⟨g, 0, none⟩ : Addr).add j) = some u := by
    intro j u hu
    have hadd : (⟨g, 0, none⟩ : Addr).add j = ⟨g, j, none⟩ := by unfold Addr.add; split <;> simp_all
    rw [hadd, hg.cell j]
    simpa using hu
  obtain ⟨v', w', hrun, h2, h3, _, h5⟩ := run_append_own_at (P := Tryz.prog) w base 37 37 84 i (.agg #[.int .i64 0, .int .i64 0, .int .i64 0]) 3 24 Tryz.underlying37 hi hz hs hb rfl (by decide) v l.length (zCells l) h ⟨g, 0, none⟩ 1 1 [.int .i64 r.1, .int .i64 r.2.1, .int .i64 r.2.2] rfl hcells (fun u hu => by
    simp at hu
    rcases hu with rfl | rfl | rfl <;> rfl) (by unfold maxLen; omega) (by omega) hbase
  refine ⟨v', w', hrun, ?_, h3, h5⟩
  unfold OwnZ
  rw [List.length_append, zCells_snoc]
  exact h2
theorem wpList_appZ {w : World} {ops : Array Oper} {rest : List Oper} {o : Oper} {a : Act} {Q : Exit → Act → World → Prop} (hgd : o.guard = none) (s x : Operand) (ho : o.op = .call { callee := .builtin .append, args := #[s, x], argTypes := #[37, 37] }) (hty : o.type = 37)
    (base : Nat) (v : Value) (l : List Rz) (hs : a.eval s = v) (hown : OwnZ w base v l) (g : Nat) (r : Rz) (hx : a.eval x = .slice (some ⟨g, 0, none⟩) 1 1) (hg : Blk w g 84 #[.int .i64 r.1, .int .i64 r.2.1, .int .i64 r.2.2])
    (hl : l.length ≤ 1048576) (hbase : base ≤ w.heap.size)
    (h : ∀ v' w', OwnZ w' base v' (l ++ [r]) → w.grownBy w' v.ownBlock → (v'.ownBlock = v.ownBlock ∨ v'.ownBlock = some w.heap.size) → wpList Tryz.prog ops Q rest (a.put o.dst v') w') : wpList Tryz.prog ops Q (o :: rest) a w := by
  refine wpList_plain hgd fun _ hK => ?_
  obtain ⟨v', w', hrun, h2, h3, h4⟩ := run_appZ w base v l hown g r hg hl hbase
  unfold Oper.wp execOp
  simp only [ho, hty, resolve, invoke, builtin, Sem.run_bind, Sem.run_pure, Result.andThen_ok, List.map_toArray, List.map_cons, List.map_nil, hs, hx, hrun]
  exact hK _ _ (h v' w' h2 h3 h4)

theorem RowZ.zb {w : World} {g cap : Nat} {l : List Rz} (h : RowZ w g cap l) (hl : l.length ≤ 1048576) : ZB w (some ⟨g, 0, none⟩) l :=
  ⟨fun _ => ⟨g, 0, rfl, h.lt, fun i r hi => by rw [Nat.zero_add]; exact h.cells hi⟩, hl⟩
theorem OwnZ.zb {w : World} {base : Nat} {v : Value} {l : List Rz} (h : OwnZ w base v l) (hl : l.length ≤ 1048576) : ∃ a c, v = .slice a l.length c ∧ ZB w a l ∧ ∀ g o, a = some ⟨g, o, none⟩ → 0 < l.length → base ≤ g := by
  by_cases h0 : 0 < l.length
  · obtain ⟨g, cap, rfl, hb, hr⟩ := h.rowZ h0
    exact ⟨_, _, rfl, hr.zb hl, fun g' o e _ => by injection e with e; injection e with e; omega⟩
  · obtain ⟨A, c, rfl⟩ := own_slice h
    exact ⟨_, _, rfl, ⟨fun h => absurd h h0, hl⟩, fun _ _ _ h => absurd h h0⟩
end Go.Proofs.YtgoogihfggndpaaGreatDoor

/- Runs of whole numbers: joined (region). -/
namespace Go.Proofs.YtgoogihfggndpaaGreatDoor
set_option linter.unusedVariables false
set_option linter.unusedSimpArgs false
open Go.RowKit

theorem jstep_len (O : List Rz) (r : Rz) : (jstep O r).length ≤ O.length + 1 := by
  rcases List.eq_nil_or_concat O with rfl | ⟨M, x, rfl⟩
  · simp [jstep_nil]
  · rw [List.concat_eq_append, jstep_snoc]
    split <;> simp
theorem jfold_len : ∀ (l O : List Rz), (l.foldl jstep O).length ≤ O.length + l.length
  | [], O => by simp
  | r :: l, O => by
    have := jfold_len l (jstep O r)
    have := jstep_len O r
    simp only [List.foldl_cons, List.length_cons]
    omega
def joinK (l : List Rz) (k : Nat) : List Rz := (l.take k).foldl jstep []
theorem joinK_len (l : List Rz) (k : Nat) : (joinK l k).length ≤ k := by
  have := jfold_len (l.take k) []
  have := List.length_take_le k l
  unfold joinK
  simp at *
  omega
theorem joinK_succ {l : List Rz} {k : Nat} {r : Rz} (h : l[k]? = some r) : joinK l (k + 1) = jstep (joinK l k) r := by
  unfold joinK
  rw [List.take_add_one, h, Option.toList_some, List.foldl_append]; rfl
theorem joinK_all {l : List Rz} {N : Nat} (h : l.length = N) : joinK l N = joinZ l := by
  unfold joinK joinZ
  rw [List.take_of_length_le (by omega)]
theorem ownZ_nil (w : World) (b : Nat) : OwnZ w b (.slice none 0 0) [] := ⟨rfl, .inl ⟨rfl, rfl⟩⟩
theorem folZ_pr {x m j x' m' j' : Int} (h : folZ (x, m, j) (x', m', j') = true) : prZ (x, m, j) = true ∧ prZ (x', m', j') = true := by
  unfold folZ at h
  simp only [Bool.and_eq_true] at h
  exact ⟨h.1.1.1, h.1.1.2⟩
set_option maxRecDepth 100000 in
set_option maxHeartbeats 4000000 in
theorem zjoin (w : World) (a : Option Addr) (c : Nat) (l : List Rz) (h : ZB w a l) : Calls Tryz.prog 184 #[.slice a l.length c] w fun e w' => ∃ v, e = .returned v ∧ OwnZ w' w.heap.size v (joinZ l) ∧ Fr [] w w' := by
  have HI := Lib.hid (fun W x n k y m j => zfol W x n k y m j)
  have HZ := Lib.hid h
  have hlen := h.len
  clear h
  generalize hN : l.length = N at *
  have HN := Lib.hid hN
  have HJ := Lib.hid (joinK_all hN)
  clear hN
  go_enter Tryz.func184, Tryz.ntmps184
  go_wp2_with fail
  go_loopw [3, 9] (fun u v W => ∃ (k : Nat), k ≤ N ∧ v = .int .i64 k ∧ OwnZ W w.heap.size u (joinK l k) ∧ Fr [] w W) (fun _ v _ => N - (intOf v).toNat)
  case atStart => exact ⟨0, by omega, rfl, ownZ_nil _ _, Fr.refl _ _⟩
  case round =>
    obtain ⟨k, hk, rfl, hO, hF⟩ := hrel
    have HF := Lib.hid hF
    have HO := Lib.hid hO
    by_cases hlt : k < N
    · obtain ⟨⟨x, m, j⟩, hr⟩ : ∃ r, l[k]? = some r := ⟨_, List.getElem?_eq_getElem (by rw [HN.out]; exact hlt)⟩
      obtain ⟨g, o, rfl, hg, hc⟩ := (HZ.out.fr0 HF.out).row (by rw [HN.out]; omega)
      obtain ⟨c0, c1, c2⟩ := hc k _ hr
      simp only at c0 c1 c2
      have hi := fun W x' n' k' => HI.out W x' n' k' x m j
      have b0 : decide ((k : Int) < N) = true := by simp; omega
      have b0' : decide (k < N) = true := by simp; omega
      have wk : IntKind.i64.wrap ((k : Int) + 1) = (k : Int) + 1 := IntWalk.i64_in _ (by omega)
      have i0 : (0 : Int) ≤ k := by omega
      have i1 : (k : Int) < N := by omega
      have HS := Lib.hid (joinK_succ hr)
      have hl := joinK_len l k
      generalize joinK l k = O at *
      have F1 := Lib.hid (hF.alloc (.cells #[.int .i64 x, .int .i64 m, .int .i64 j] 84))
      have B1 := Lib.hid (Blk.new wr 84 #[.int .i64 x, .int .i64 m, .int .i64 j])
      have hws := hF.size
      rcases List.eq_nil_or_concat O with rfl | ⟨M, ⟨x', m', j'⟩, rfl⟩
      · obtain ⟨A, cc, rfl⟩ := own_slice hO
        rw [jstep_nil] at HS
        have d0 := B1.out.drew.cell 0
        have d1 := B1.out.drew.cell 1
        have d2 := B1.out.drew.cell 2
        simp at d0 d1 d2
        have w0 : IntKind.i64.wrap (-1) = -1 := by decide
        have HB2 := Lib.hid (show Blk ((wr.alloc (.cells #[.int .i64 x, .int .i64 m, .int .i64 j] 84)).alloc (.cells #[.int .i64 x, .int .i64 m, .int .i64 j] 84)).drew (wr.heap.size + 1) 84 #[.int .i64 x, .int .i64 m, .int .i64 j] from Blk.new2 wr _ 84 _)
        have F2 := Lib.hid (F1.out.alloc (.cells #[.int .i64 x, .int .i64 m, .int .i64 j] 84)).drew
        have HK := Lib.hid (show OwnZ ((wr.alloc (.cells #[.int .i64 x, .int .i64 m, .int .i64 j] 84)).alloc (.cells #[.int .i64 x, .int .i64 m, .int .i64 j] 84)).drew w.heap.size (.slice A ([] : List Rz).length cc) [] from own_keep hO (((Fr.refl [] wr).alloc _).alloc _).drew)
        simp only [List.length_nil] at HK
        clear hc hr HI hO hF hi HO B1
        simp only [List.length_nil] at *
        go_wp2_with fail
        refine wp_region_held_drew (S := fun _ => True) (by kernel_rfl) (trivial) (fun yH => ?_)
        refine tkY 0 yH (h := ?_)
        refine tkY 1 yH (h := ?_)
        refine tkY 2 yH (h := ?_)
        refine tkN 3 yH (h := ?_)
        refine tkN 4 yH (h := ?_)
        refine tkN 5 yH (h := ?_)
        refine tkN 6 yH (h := ?_)
        refine tkN 7 yH (h := ?_)
        refine tkN 8 yH (h := ?_)
        refine tkY 9 yH (h := ?_)
        refine wpAnyH_done (by kernel_rfl) ?_ _
        go_wp2_with (at_builtin; go_must (refine wpList_appZ rfl _ _ rfl rfl w.heap.size _ [] rfl HK.out _ (x, m, j) rfl HB2.out (by simp) (by simp; omega) ?_); intro v1 W1 hO1 hg1 hob1)
        have HO1 := Lib.hid hO1
        have HF1 := Lib.hid (own_fr HK.out hg1 F2.out (Nat.le_refl _))
        clear hO1 hg1 hob1
        go_wp2_with fail
        go_roundw
        case rel => exact ⟨k + 1, by omega, by go_num, by rw [HS.out]; exact HO1.out, HF1.out⟩
        case measure => simp [intOf]; omega
      · rw [List.concat_eq_append] at *
        obtain ⟨g2, cap, rfl, hgb, hr2⟩ := hO.rowZ (by simp)
        rw [jstep_snoc] at HS
        have hM : (M ++ [(x', m', j')]).length = M.length + 1 := by simp
        have HY := Lib.hid (fun W (hf : Fr [] (wr.alloc (.cells #[.int .i64 x, .int .i64 m, .int .i64 j] 84)) W) => (show W.cell? ⟨g2, M.length * 3, none⟩ = some (.int .i64 x') ∧ W.cell? ⟨g2, M.length * 3 + 1, none⟩ = some (.int .i64 m') ∧ W.cell? ⟨g2, M.length * 3 + 2, none⟩ = some (.int .i64 j') ∧ W.cell? ⟨wr.heap.size, 0, none⟩ = some (.int .i64 x) ∧ W.cell? ⟨wr.heap.size, 1, none⟩ = some (.int .i64 m) ∧ W.cell? ⟨wr.heap.size, 2, none⟩ = some (.int .i64 j) from by
          obtain ⟨a1, a2, a3⟩ := (hr2.fr (((Fr.refl [] wr).alloc _).trans hf) (by simp)).cells (k := M.length) (r := (x', m', j')) (by simp)
          refine ⟨a1, a2, a3, ?_, ?_, ?_⟩
          · exact (B1.out.fr hf (by simp)).cell 0
          · exact (B1.out.fr hf (by simp)).cell 1
          · exact (B1.out.fr hf (by simp)).cell 2))
        have hcap := hr2.le
        have HR2 := Lib.hid hr2
        have hO0 := HO.out
        clear hO hr2 HO
        rw [hM] at hcap hO0 hl
        generalize hLL : M ++ [(x', m', j')] = LL at *
        rw [hM]
        have HLL := Lib.hid hLL
        generalize hn : M.length = n at *
        have HNN := Lib.hid hn
        have HLn := Lib.hid hM
        clear hn hLL hM
        have wl : IntKind.i64.wrap (((n + 1 : Nat) : Int) - 1) = (n : Int) := by rw [IntWalk.i64_in _ (by omega)]; omega
        have wl' : IntKind.i64.wrap ((n : Int) + 1 - 1) = (n : Int) := by rw [IntWalk.i64_in _ (by omega)]; omega
        have m0 : (0 : Int) ≤ n := by omega
        have m1 : (n : Int) < (n + 1 : Nat) := by omega
        have m1' : (n : Int) < n + 1 := by omega
        have b1 : decide ((0 : Int) ≤ n) = true := by simp
        have hY := HY.out _ (Fr.refl [] _).drew
        have hsum : folZ (x', m', j') (x, m, j) = true → IntKind.i64.wrap (m' + m) = m' + m := fun h => by
          have h1 := prZ_b (folZ_pr h).1
          have h2 := prZ_b (folZ_pr h).2
          exact IntWalk.i64_in _ (by omega)
        have hi := fun W => hi W x' m' j'
        generalize folZ (x', m', j') (x, m, j) = p at *
        clear hc hr HI hF
        cases p
        · clear hsum
          go_wp2_with fail
          refine wp_region_held_drew (S := fun W => W.cell? ⟨g2, n * 3, none⟩ = some (.int .i64 x') ∧ W.cell? ⟨g2, n * 3 + 1, none⟩ = some (.int .i64 m') ∧ W.cell? ⟨g2, n * 3 + 2, none⟩ = some (.int .i64 j') ∧ W.cell? ⟨wr.heap.size, 0, none⟩ = some (.int .i64 x) ∧ W.cell? ⟨wr.heap.size, 1, none⟩ = some (.int .i64 m) ∧ W.cell? ⟨wr.heap.size, 2, none⟩ = some (.int .i64 j)) (by kernel_rfl) (hY) (fun yH => ?_)
          refine tkY 0 yH (h := ?_)
          refine tkY 1 yH (h := ?_)
          refine tkY 2 yH (h := ?_)
          refine tkY 3 yH (h := ?_)
          refine tkY 4 yH (h := ?_)
          refine tkY 5 yH (h := ?_)
          refine tkY 6 yH (h := ?_)
          refine tkY 7 yH (h := ?_)
          refine wpAnyH_ready (rs := [8]) (by kernel_rfl) (by simp) ?_
          refine AllReadyH.cons (o := ?oob8) ?hib8 (fun K hK => ?hcb8) AllReadyH.nil
          case hib8 => (simp only [List.getElem?_toArray, List.getElem?_cons_zero, List.getElem?_cons_succ]; rfl)
          go_simp
          with_reducible refine (hi _).mono ?_
          rintro e w1 ⟨rfl, f1⟩
          have FA := Lib.hid (show Fr [] (wr.alloc (.cells #[.int .i64 x, .int .i64 m, .int .i64 j] 84)) w1 from (Fr.refl [] _).drew.trans f1)
          have hY := HY.out _ FA.out
          clear f1
          go_wp2_with fail
          refine hK.out _ _ (hY) (fun yH => ?_)
          clear hK K
          try simp only [Act.put, List.setIfInBounds_toArray, List.set_cons_zero, List.set_cons_succ]
          refine tkY 9 yH (h := ?_)
          refine wpAnyH_done (by kernel_rfl) ?_ _
          obtain ⟨-, -, -, d0, d1, d2⟩ := hY
          have F2 := Lib.hid ((F1.out.trans FA.out).alloc (.cells #[.int .i64 x, .int .i64 m, .int .i64 j] 84))
          have HK := Lib.hid (show OwnZ (w1.alloc (.cells #[.int .i64 x, .int .i64 m, .int .i64 j] 84)) w.heap.size (.slice (some ⟨g2, 0, none⟩) (n + 1) cap) LL from own_keep hO0 ((((Fr.refl [] wr).alloc _).trans FA.out).alloc _))
          have HB2 := Lib.hid (Blk.new w1 84 #[.int .i64 x, .int .i64 m, .int .i64 j])
          have hll : LL.length ≤ 1048576 := by rw [HLn.out]; omega
          have hb2 : w.heap.size ≤ (w1.alloc (.cells #[.int .i64 x, .int .i64 m, .int .i64 j] 84)).heap.size := F2.out.size
          clear hO0
          go_wp2_with (at_builtin; go_must (refine wpList_appZ rfl _ _ rfl rfl w.heap.size _ LL rfl HK.out _ (x, m, j) rfl HB2.out hll hb2 ?_); intro v1 W1 hO1 hg1 hob1)
          have HO1 := Lib.hid hO1
          have HF1 := Lib.hid (own_fr HK.out hg1 F2.out (Nat.le_refl _))
          clear hO1 hg1 hob1
          go_wp2_with fail
          go_roundw
          case rel => exact ⟨k + 1, by omega, by go_num, by rw [HS.out]; exact HO1.out, HF1.out⟩
          case measure => simp [intOf]; omega
        · have hsum := hsum rfl
          go_wp2_with fail
          refine wp_region_held_drew (S := fun W => W.cell? ⟨g2, n * 3, none⟩ = some (.int .i64 x') ∧ W.cell? ⟨g2, n * 3 + 1, none⟩ = some (.int .i64 m') ∧ W.cell? ⟨g2, n * 3 + 2, none⟩ = some (.int .i64 j') ∧ W.cell? ⟨wr.heap.size, 0, none⟩ = some (.int .i64 x) ∧ W.cell? ⟨wr.heap.size, 1, none⟩ = some (.int .i64 m) ∧ W.cell? ⟨wr.heap.size, 2, none⟩ = some (.int .i64 j)) (by kernel_rfl) (hY) (fun yH => ?_)
          refine tkY 0 yH (h := ?_)
          refine tkY 1 yH (h := ?_)
          refine tkY 2 yH (h := ?_)
          refine tkY 3 yH (h := ?_)
          refine tkY 4 yH (h := ?_)
          refine tkY 5 yH (h := ?_)
          refine tkY 6 yH (h := ?_)
          refine tkY 7 yH (h := ?_)
          refine wpAnyH_ready (rs := [8]) (by kernel_rfl) (by simp) ?_
          refine AllReadyH.cons (o := ?ooc8) ?hic8 (fun K hK => ?hcc8) AllReadyH.nil
          case hic8 => (simp only [List.getElem?_toArray, List.getElem?_cons_zero, List.getElem?_cons_succ]; rfl)
          go_simp
          with_reducible refine (hi _).mono ?_
          rintro e w1 ⟨rfl, f1⟩
          have FA := Lib.hid (show Fr [] (wr.alloc (.cells #[.int .i64 x, .int .i64 m, .int .i64 j] 84)) w1 from (Fr.refl [] _).drew.trans f1)
          have hY := HY.out _ FA.out
          clear f1
          go_wp2_with fail
          refine hK.out _ _ (hY) (fun yH => ?_)
          clear hK K
          try simp only [Act.put, List.setIfInBounds_toArray, List.set_cons_zero, List.set_cons_succ]
          refine tkY 9 yH (h := ?_)
          refine wpAnyH_done (by kernel_rfl) ?_ _
          obtain ⟨-, y1, -, -, y4, -⟩ := hY
          have z1 := (HR2.out.fr (((Fr.refl [] wr).alloc _).trans FA.out) (by simp)).frozen (n * 3 + 1)
          have y1' : w1.drew.cell? ⟨g2, n * 3 + 1, none⟩ = some (.int .i64 m') := y1
          have y4' : w1.drew.cell? ⟨wr.heap.size, 1, none⟩ = some (.int .i64 m) := y4
          have z1' : w1.drew.frozen? ⟨g2, n * 3 + 1, none⟩ = false := z1
          have i2 : n < cap := by omega
          have i3 : ((n + 1 : Nat) : Int) ≤ cap := by omega
          have HFIN := Lib.hid (show OwnZ (w1.setCell ⟨g2, n * 3 + 1, none⟩ (.int .i64 (m' + m))).drew w.heap.size (.slice (some ⟨g2, 0, none⟩) (n + 1) cap) (M ++ [(x', m' + m, j')]) ∧ Fr [] w (w1.setCell ⟨g2, n * 3 + 1, none⟩ (.int .i64 (m' + m))).drew from by
            constructor
            · have h5 := HR2.out.fr (((Fr.refl [] wr).alloc (.cells #[.int .i64 x, .int .i64 m, .int .i64 j] 84)).trans FA.out) (by simp)
              rw [← HLL.out] at h5
              have h6 := h5.setL (m' + m)
              rw [HNN.out] at h6
              have h7 := h6.own (base := w.heap.size) hgb
              have e : (M ++ [(x', m' + m, j')]).length = n + 1 := by simp [HNN.out]
              rw [e] at h7
              exact h7
            · exact ((F1.out.trans FA.out).setCell (p := ⟨g2, n * 3 + 1, none⟩) (.inr hgb) _).drew)
          clear hO0
          go_wp2_with fail
          apply cutZ
          · intro key
            go_region
            all_goals exact key
          · go_wp2_with fail
            go_roundw
            case rel => exact ⟨k + 1, by omega, by go_num, by rw [HS.out]; exact HFIN.out.1, HFIN.out.2⟩
            case measure => simp [intOf]; omega
    · obtain rfl : k = N := by omega
      have b0 : decide ((k : Int) < k) = false := by simp
      have b0' : decide (k < k) = false := by simp
      go_wp2_with fail
      go_ret
      exact ⟨_, rfl, by rw [← HJ.out]; exact HO.out, HF.out⟩
end Go.Proofs.YtgoogihfggndpaaGreatDoor

/- Runs of whole numbers: joined (the document). -/
namespace Go.Proofs.YtgoogihfggndpaaGreatDoor
set_option linter.unusedVariables false
set_option linter.unusedSimpArgs false
open Go.RowKit

set_option maxRecDepth 100000 in
set_option maxHeartbeats 8000000 in
theorem xjoin16 (w : World) (a : Option Addr) (c : Nat) (l : List Rz) (h : ZB w a l) : Calls Tryz.prog 117 #[.slice a l.length c] w fun e w' => ∃ v, e = .returned v ∧ OwnZ w' w.heap.size v (joinZ l) ∧ Fr [] w w' := by
  have HI := Lib.hid (fun W x m j => xis16 W x m j)
  have HZ := Lib.hid h
  have hlen := h.len
  clear h
  generalize hN : l.length = N at *
  have HN := Lib.hid hN
  have HJ := Lib.hid (joinK_all hN)
  clear hN
  go_enter Tryz.func117, Tryz.ntmps117
  go_wp2_with fail
  go_loopw [3, 4] (fun u v W => ∃ (k : Nat), k ≤ N ∧ v = .int .i64 k ∧ OwnZ W w.heap.size u (joinK l k) ∧ Fr [] w W) (fun _ v _ => N - (intOf v).toNat)
  case atStart => exact ⟨0, by omega, rfl, ownZ_nil _ _, Fr.refl _ _⟩
  case round =>
    obtain ⟨k, hk, rfl, hO, hF⟩ := hrel
    have HF := Lib.hid hF
    have HO := Lib.hid hO
    by_cases hlt : k < N
    · obtain ⟨⟨x, m, j⟩, hr⟩ : ∃ r, l[k]? = some r := ⟨_, List.getElem?_eq_getElem (by rw [HN.out]; exact hlt)⟩
      obtain ⟨g, o, rfl, hg, hc⟩ := (HZ.out.fr0 HF.out).row (by rw [HN.out]; omega)
      have HC := Lib.hid (fun W (hf : Fr [] wr W) => (show W.cell? ⟨g, o + k * 3, none⟩ = some (.int .i64 x) ∧ W.cell? ⟨g, o + k * 3 + 1, none⟩ = some (.int .i64 m) ∧ W.cell? ⟨g, o + k * 3 + 2, none⟩ = some (.int .i64 j) from by
        obtain ⟨c0, c1, c2⟩ := hc k _ hr
        exact ⟨(hf.cell hg (by simp)).trans c0, (hf.cell hg (by simp)).trans c1, (hf.cell hg (by simp)).trans c2⟩))
      have hi2 := fun W => HI.out W x m j
      have b0 : decide ((k : Int) < N) = true := by simp; omega
      have b0' : decide (k < N) = true := by simp; omega
      have wk : IntKind.i64.wrap ((k : Int) + 1) = (k : Int) + 1 := IntWalk.i64_in _ (by omega)
      have i0 : (0 : Int) ≤ k := by omega
      have i1 : (k : Int) < N := by omega
      have HS := Lib.hid (joinK_succ hr)
      have hl := joinK_len l k
      generalize joinK l k = O at *
      have hws := hF.size
      rcases List.eq_nil_or_concat O with rfl | ⟨M, ⟨x', m', j'⟩, rfl⟩
      · obtain ⟨A, cc, rfl⟩ := own_slice hO
        rw [jstep_nil] at HS
        obtain ⟨d0, d1, d2⟩ := HC.out _ (Fr.refl _ _)
        obtain ⟨d0', d1', d2'⟩ := HC.out _ (Fr.refl _ _).drew
        have w0 : IntKind.i64.wrap (-1) = -1 := by decide
        have HB2 := Lib.hid (Blk.new wr 84 #[.int .i64 x, .int .i64 m, .int .i64 j]).drew
        have F2 := Lib.hid (HF.out.alloc (.cells #[.int .i64 x, .int .i64 m, .int .i64 j] 84)).drew
        have HK := Lib.hid (show OwnZ (wr.alloc (.cells #[.int .i64 x, .int .i64 m, .int .i64 j] 84)).drew w.heap.size (.slice A ([] : List Rz).length cc) [] from own_keep hO (((Fr.refl [] wr).alloc _).drew))
        simp only [List.length_nil] at HK
        clear hc hr HI hO hF hi2 HO HC
        simp only [List.length_nil] at *
        go_wp2_with fail
        refine wp_region_held_drew (S := fun _ => True) (by kernel_rfl) (trivial) (fun yH => ?_)
        refine tkY 0 yH (h := ?_)
        refine tkY 1 yH (h := ?_)
        refine tkY 2 yH (h := ?_)
        refine tkN 3 yH (h := ?_)
        refine tkN 4 yH (h := ?_)
        refine tkN 5 yH (h := ?_)
        refine tkN 6 yH (h := ?_)
        refine tkN 7 yH (h := ?_)
        refine tkY 8 yH (h := ?_)
        refine tkY 9 yH (h := ?_)
        refine tkN 10 yH (h := ?_)
        refine tkN 11 yH (h := ?_)
        refine tkN 12 yH (h := ?_)
        refine tkN 13 yH (h := ?_)
        refine tkN 14 yH (h := ?_)
        refine tkY 15 yH (h := ?_)
        refine tkY 16 yH (h := ?_)
        refine tkN 17 yH (h := ?_)
        refine tkN 18 yH (h := ?_)
        refine tkN 19 yH (h := ?_)
        refine tkN 20 yH (h := ?_)
        refine tkN 21 yH (h := ?_)
        refine tkN 22 yH (h := ?_)
        refine tkN 23 yH (h := ?_)
        refine tkN 24 yH (h := ?_)
        refine tkN 25 yH (h := ?_)
        refine tkN 26 yH (h := ?_)
        refine tkN 27 yH (h := ?_)
        refine tkY 28 yH (h := ?_)
        refine tkY 29 yH (h := ?_)
        refine tkN 30 yH (h := ?_)
        refine tkN 31 yH (h := ?_)
        refine tkN 32 yH (h := ?_)
        refine tkN 33 yH (h := ?_)
        refine tkN 34 yH (h := ?_)
        refine tkN 35 yH (h := ?_)
        refine tkN 36 yH (h := ?_)
        refine tkN 37 yH (h := ?_)
        refine tkN 38 yH (h := ?_)
        refine tkN 39 yH (h := ?_)
        refine tkN 40 yH (h := ?_)
        refine tkN 41 yH (h := ?_)
        refine tkN 42 yH (h := ?_)
        refine tkN 43 yH (h := ?_)
        refine tkN 44 yH (h := ?_)
        refine tkN 45 yH (h := ?_)
        refine tkN 46 yH (h := ?_)
        refine tkY 47 yH (h := ?_)
        refine wpAnyH_done (by kernel_rfl) ?_ _
        go_wp2_with (at_builtin; go_must (refine wpList_appZ rfl _ _ rfl rfl w.heap.size _ [] rfl HK.out _ (x, m, j) rfl HB2.out (by simp) (by simp; omega) ?_); intro v1 W1 hO1 hg1 hob1)
        have HO1 := Lib.hid hO1
        have HF1 := Lib.hid (own_fr HK.out hg1 F2.out (Nat.le_refl _))
        clear hO1 hg1 hob1
        go_wp2_with fail
        go_roundw
        case rel => exact ⟨k + 1, by omega, by go_num, by rw [HS.out]; exact HO1.out, HF1.out⟩
        case measure => simp [intOf]; omega
      · rw [List.concat_eq_append] at *
        obtain ⟨g2, cap, rfl, hgb, hr2⟩ := hO.rowZ (by simp)
        rw [jstep_snoc] at HS
        have hM : (M ++ [(x', m', j')]).length = M.length + 1 := by simp
        have HY := Lib.hid (fun W (hf : Fr [] wr W) => (show W.cell? ⟨g2, M.length * 3, none⟩ = some (.int .i64 x') ∧ W.cell? ⟨g2, M.length * 3 + 1, none⟩ = some (.int .i64 m') ∧ W.cell? ⟨g2, M.length * 3 + 2, none⟩ = some (.int .i64 j') ∧ W.cell? ⟨g, o + k * 3, none⟩ = some (.int .i64 x) ∧ W.cell? ⟨g, o + k * 3 + 1, none⟩ = some (.int .i64 m) ∧ W.cell? ⟨g, o + k * 3 + 2, none⟩ = some (.int .i64 j) from by
          obtain ⟨a1, a2, a3⟩ := (hr2.fr hf (by simp)).cells (k := M.length) (r := (x', m', j')) (by simp)
          obtain ⟨a4, a5, a6⟩ := HC.out W hf
          exact ⟨a1, a2, a3, a4, a5, a6⟩))
        have hcap := hr2.le
        have HR2 := Lib.hid hr2
        have hO0 := HO.out
        clear hO hr2 HO
        rw [hM] at hcap hO0 hl
        generalize hLL : M ++ [(x', m', j')] = LL at *
        rw [hM]
        have HLL := Lib.hid hLL
        generalize hn : M.length = n at *
        have HNN := Lib.hid hn
        have HLn := Lib.hid hM
        have HO0 := Lib.hid hO0
        clear hn hLL hM hO0
        have wl : IntKind.i64.wrap (((n + 1 : Nat) : Int) - 1) = (n : Int) := by rw [IntWalk.i64_in _ (by omega)]; omega
        have wl' : IntKind.i64.wrap ((n : Int) + 1 - 1) = (n : Int) := by rw [IntWalk.i64_in _ (by omega)]; omega
        have m0 : (0 : Int) ≤ n := by omega
        have m1 : (n : Int) < (n + 1 : Nat) := by omega
        have m1' : (n : Int) < n + 1 := by omega
        have b1 : decide ((0 : Int) ≤ n) = true := by simp
        have hY := HY.out _ (Fr.refl [] _).drew
        have hi1 := fun W => HI.out W x' m' j'
        have ef : folZ (x', m', j') (x, m, j) = (prZ (x', m', j') && (prZ (x, m, j) && (j' == j && x' + m' == x))) := by simp [folZ, Bool.and_assoc]
        rw [ef] at HS
        have HB := Lib.hid (And.intro (@prZ_b x' m' j') (@prZ_b x m j))
        generalize prZ (x', m', j') = p1 at *
        generalize prZ (x, m, j) = p2 at *
        clear ef hc hr HI hF
        cases p1
        · clear hi2 HB
          go_wp2_with fail
          refine wp_region_held_drew (S := fun W => W.cell? ⟨g2, n * 3, none⟩ = some (.int .i64 x') ∧ W.cell? ⟨g2, n * 3 + 1, none⟩ = some (.int .i64 m') ∧ W.cell? ⟨g2, n * 3 + 2, none⟩ = some (.int .i64 j') ∧ W.cell? ⟨g, o + k * 3, none⟩ = some (.int .i64 x) ∧ W.cell? ⟨g, o + k * 3 + 1, none⟩ = some (.int .i64 m) ∧ W.cell? ⟨g, o + k * 3 + 2, none⟩ = some (.int .i64 j)) (by kernel_rfl) (hY) (fun yH => ?_)
          refine tkY 0 yH (h := ?_)
          refine tkY 1 yH (h := ?_)
          refine tkY 2 yH (h := ?_)
          refine tkY 3 yH (h := ?_)
          refine tkY 4 yH (h := ?_)
          refine tkY 5 yH (h := ?_)
          refine tkY 6 yH (h := ?_)
          refine wpAnyH_ready (rs := [7]) (by kernel_rfl) (by simp) ?_
          refine AllReadyH.cons (o := ?oob7) ?hib7 (fun K hK => ?hcb7) AllReadyH.nil
          case hib7 => (simp only [List.getElem?_toArray, List.getElem?_cons_zero, List.getElem?_cons_succ]; rfl)
          go_simp
          with_reducible refine (hi1 _).mono ?_
          rintro e w1 ⟨rfl, f1⟩
          have FA := Lib.hid (show Fr [] wr w1 from (Fr.refl [] _).drew.trans f1)
          have hY := HY.out _ FA.out
          clear f1
          go_wp2_with fail
          refine hK.out _ _ (hY) (fun yH => ?_)
          clear hK K
          try simp only [Act.put, List.setIfInBounds_toArray, List.set_cons_zero, List.set_cons_succ]
          refine tkY 8 yH (h := ?_)
          refine tkY 9 yH (h := ?_)
          refine tkN 10 yH (h := ?_)
          refine tkN 11 yH (h := ?_)
          refine tkN 12 yH (h := ?_)
          refine tkN 13 yH (h := ?_)
          refine tkN 14 yH (h := ?_)
          refine tkY 15 yH (h := ?_)
          refine tkY 16 yH (h := ?_)
          refine tkN 17 yH (h := ?_)
          refine tkN 18 yH (h := ?_)
          refine tkN 19 yH (h := ?_)
          refine tkN 20 yH (h := ?_)
          refine tkN 21 yH (h := ?_)
          refine tkN 22 yH (h := ?_)
          refine tkN 23 yH (h := ?_)
          refine tkN 24 yH (h := ?_)
          refine tkN 25 yH (h := ?_)
          refine tkN 26 yH (h := ?_)
          refine tkN 27 yH (h := ?_)
          refine tkY 28 yH (h := ?_)
          refine tkY 29 yH (h := ?_)
          refine tkN 30 yH (h := ?_)
          refine tkN 31 yH (h := ?_)
          refine tkN 32 yH (h := ?_)
          refine tkN 33 yH (h := ?_)
          refine tkN 34 yH (h := ?_)
          refine tkN 35 yH (h := ?_)
          refine tkN 36 yH (h := ?_)
          refine tkN 37 yH (h := ?_)
          refine tkN 38 yH (h := ?_)
          refine tkN 39 yH (h := ?_)
          refine tkN 40 yH (h := ?_)
          refine tkN 41 yH (h := ?_)
          refine tkN 42 yH (h := ?_)
          refine tkN 43 yH (h := ?_)
          refine tkN 44 yH (h := ?_)
          refine tkN 45 yH (h := ?_)
          refine tkN 46 yH (h := ?_)
          refine tkY 47 yH (h := ?_)
          refine wpAnyH_done (by kernel_rfl) ?_ _
          have d0 := hY.2.2.2.1
          have d1 := hY.2.2.2.2.1
          have d2 := hY.2.2.2.2.2
          have F2 := Lib.hid ((HF.out.trans FA.out).alloc (.cells #[.int .i64 x, .int .i64 m, .int .i64 j] 84))
          have HK := Lib.hid (show OwnZ (w1.alloc (.cells #[.int .i64 x, .int .i64 m, .int .i64 j] 84)) w.heap.size (.slice (some ⟨g2, 0, none⟩) (n + 1) cap) LL from own_keep HO0.out (FA.out.alloc _))
          have HB2 := Lib.hid (Blk.new w1 84 #[.int .i64 x, .int .i64 m, .int .i64 j])
          have hll : LL.length ≤ 1048576 := by rw [HLn.out]; omega
          have hb2 : w.heap.size ≤ (w1.alloc (.cells #[.int .i64 x, .int .i64 m, .int .i64 j] 84)).heap.size := F2.out.size
          clear hY
          go_wp2_with (at_builtin; go_must (refine wpList_appZ rfl _ _ rfl rfl w.heap.size _ LL rfl HK.out _ (x, m, j) rfl HB2.out hll hb2 ?_); intro v1 W1 hO1 hg1 hob1)
          have HO1 := Lib.hid hO1
          have HF1 := Lib.hid (own_fr HK.out hg1 F2.out (Nat.le_refl _))
          clear hO1 hg1 hob1
          go_wp2_with fail
          go_roundw
          case rel => exact ⟨k + 1, by omega, by go_num, by rw [HS.out]; exact HO1.out, HF1.out⟩
          case measure => simp [intOf]; omega
        cases p2
        · clear HB
          go_wp2_with fail
          refine wp_region_held_drew (S := fun W => W.cell? ⟨g2, n * 3, none⟩ = some (.int .i64 x') ∧ W.cell? ⟨g2, n * 3 + 1, none⟩ = some (.int .i64 m') ∧ W.cell? ⟨g2, n * 3 + 2, none⟩ = some (.int .i64 j') ∧ W.cell? ⟨g, o + k * 3, none⟩ = some (.int .i64 x) ∧ W.cell? ⟨g, o + k * 3 + 1, none⟩ = some (.int .i64 m) ∧ W.cell? ⟨g, o + k * 3 + 2, none⟩ = some (.int .i64 j)) (by kernel_rfl) (hY) (fun yH => ?_)
          refine tkY 0 yH (h := ?_)
          refine tkY 1 yH (h := ?_)
          refine tkY 2 yH (h := ?_)
          refine tkY 3 yH (h := ?_)
          refine tkY 4 yH (h := ?_)
          refine tkY 5 yH (h := ?_)
          refine tkY 6 yH (h := ?_)
          refine wpAnyH_ready (rs := [7]) (by kernel_rfl) (by simp) ?_
          refine AllReadyH.cons (o := ?ooc7) ?hic7 (fun K hK => ?hcc7) AllReadyH.nil
          case hic7 => (simp only [List.getElem?_toArray, List.getElem?_cons_zero, List.getElem?_cons_succ]; rfl)
          go_simp
          with_reducible refine (hi1 _).mono ?_
          rintro e w1 ⟨rfl, f1⟩
          have FA := Lib.hid (show Fr [] wr w1 from (Fr.refl [] _).drew.trans f1)
          have hY := HY.out _ FA.out
          clear f1
          go_wp2_with fail
          refine hK.out _ _ (hY) (fun yH => ?_)
          clear hK K
          try simp only [Act.put, List.setIfInBounds_toArray, List.set_cons_zero, List.set_cons_succ]
          refine tkY 8 yH (h := ?_)
          refine tkY 9 yH (h := ?_)
          refine tkY 10 yH (h := ?_)
          refine tkY 11 yH (h := ?_)
          refine tkY 12 yH (h := ?_)
          refine tkY 13 yH (h := ?_)
          refine wpAnyH_ready (rs := [14]) (by kernel_rfl) (by simp) ?_
          refine AllReadyH.cons (o := ?ooc14) ?hic14 (fun K hK => ?hcc14) AllReadyH.nil
          case hic14 => (simp only [List.getElem?_toArray, List.getElem?_cons_zero, List.getElem?_cons_succ]; rfl)
          go_simp
          with_reducible refine (hi2 _).mono ?_
          rintro e w2 ⟨rfl, f2⟩
          have FA := Lib.hid (FA.out.trans f2)
          have hY := HY.out _ FA.out
          clear f2
          go_wp2_with fail
          refine hK.out _ _ (hY) (fun yH => ?_)
          clear hK K
          try simp only [Act.put, List.setIfInBounds_toArray, List.set_cons_zero, List.set_cons_succ]
          refine tkY 15 yH (h := ?_)
          refine tkY 16 yH (h := ?_)
          refine tkN 17 yH (h := ?_)
          refine tkN 18 yH (h := ?_)
          refine tkN 19 yH (h := ?_)
          refine tkN 20 yH (h := ?_)
          refine tkN 21 yH (h := ?_)
          refine tkN 22 yH (h := ?_)
          refine tkN 23 yH (h := ?_)
          refine tkN 24 yH (h := ?_)
          refine tkN 25 yH (h := ?_)
          refine tkN 26 yH (h := ?_)
          refine tkN 27 yH (h := ?_)
          refine tkY 28 yH (h := ?_)
          refine tkY 29 yH (h := ?_)
          refine tkN 30 yH (h := ?_)
          refine tkN 31 yH (h := ?_)
          refine tkN 32 yH (h := ?_)
          refine tkN 33 yH (h := ?_)
          refine tkN 34 yH (h := ?_)
          refine tkN 35 yH (h := ?_)
          refine tkN 36 yH (h := ?_)
          refine tkN 37 yH (h := ?_)
          refine tkN 38 yH (h := ?_)
          refine tkN 39 yH (h := ?_)
          refine tkN 40 yH (h := ?_)
          refine tkN 41 yH (h := ?_)
          refine tkN 42 yH (h := ?_)
          refine tkN 43 yH (h := ?_)
          refine tkN 44 yH (h := ?_)
          refine tkN 45 yH (h := ?_)
          refine tkN 46 yH (h := ?_)
          refine tkY 47 yH (h := ?_)
          refine wpAnyH_done (by kernel_rfl) ?_ _
          have d0 := hY.2.2.2.1
          have d1 := hY.2.2.2.2.1
          have d2 := hY.2.2.2.2.2
          have F2 := Lib.hid ((HF.out.trans FA.out).alloc (.cells #[.int .i64 x, .int .i64 m, .int .i64 j] 84))
          have HK := Lib.hid (show OwnZ (w2.alloc (.cells #[.int .i64 x, .int .i64 m, .int .i64 j] 84)) w.heap.size (.slice (some ⟨g2, 0, none⟩) (n + 1) cap) LL from own_keep HO0.out (FA.out.alloc _))
          have HB2 := Lib.hid (Blk.new w2 84 #[.int .i64 x, .int .i64 m, .int .i64 j])
          have hll : LL.length ≤ 1048576 := by rw [HLn.out]; omega
          have hb2 : w.heap.size ≤ (w2.alloc (.cells #[.int .i64 x, .int .i64 m, .int .i64 j] 84)).heap.size := F2.out.size
          clear hY
          go_wp2_with (at_builtin; go_must (refine wpList_appZ rfl _ _ rfl rfl w.heap.size _ LL rfl HK.out _ (x, m, j) rfl HB2.out hll hb2 ?_); intro v1 W1 hO1 hg1 hob1)
          have HO1 := Lib.hid hO1
          have HF1 := Lib.hid (own_fr HK.out hg1 F2.out (Nat.le_refl _))
          clear hO1 hg1 hob1
          go_wp2_with fail
          go_roundw
          case rel => exact ⟨k + 1, by omega, by go_num, by rw [HS.out]; exact HO1.out, HF1.out⟩
          case measure => simp [intOf]; omega
        have w1s : IntKind.i64.wrap (x' + m') = x' + m' := by
          have := HB.out.1 rfl
          exact IntWalk.i64_in _ (by omega)
        have w2s : IntKind.i64.wrap (m' + m) = m' + m := by
          have h1 := HB.out.1 rfl
          have h2 := HB.out.2 rfl
          exact IntWalk.i64_in _ (by omega)
        clear HB
        generalize q1 : (j' == j) = s1 at *
        generalize q2 : (x' + m' == x) = s2 at *
        cases s1
        · clear w1s w2s
          go_wp2_with fail
          refine wp_region_held_drew (S := fun W => W.cell? ⟨g2, n * 3, none⟩ = some (.int .i64 x') ∧ W.cell? ⟨g2, n * 3 + 1, none⟩ = some (.int .i64 m') ∧ W.cell? ⟨g2, n * 3 + 2, none⟩ = some (.int .i64 j') ∧ W.cell? ⟨g, o + k * 3, none⟩ = some (.int .i64 x) ∧ W.cell? ⟨g, o + k * 3 + 1, none⟩ = some (.int .i64 m) ∧ W.cell? ⟨g, o + k * 3 + 2, none⟩ = some (.int .i64 j)) (by kernel_rfl) (hY) (fun yH => ?_)
          refine tkY 0 yH (h := ?_)
          refine tkY 1 yH (h := ?_)
          refine tkY 2 yH (h := ?_)
          refine tkY 3 yH (h := ?_)
          refine tkY 4 yH (h := ?_)
          refine tkY 5 yH (h := ?_)
          refine tkY 6 yH (h := ?_)
          refine wpAnyH_ready (rs := [7]) (by kernel_rfl) (by simp) ?_
          refine AllReadyH.cons (o := ?ood7) ?hid7 (fun K hK => ?hcd7) AllReadyH.nil
          case hid7 => (simp only [List.getElem?_toArray, List.getElem?_cons_zero, List.getElem?_cons_succ]; rfl)
          go_simp
          with_reducible refine (hi1 _).mono ?_
          rintro e w1 ⟨rfl, f1⟩
          have FA := Lib.hid (show Fr [] wr w1 from (Fr.refl [] _).drew.trans f1)
          have hY := HY.out _ FA.out
          clear f1
          go_wp2_with fail
          refine hK.out _ _ (hY) (fun yH => ?_)
          clear hK K
          try simp only [Act.put, List.setIfInBounds_toArray, List.set_cons_zero, List.set_cons_succ]
          refine tkY 8 yH (h := ?_)
          refine tkY 9 yH (h := ?_)
          refine tkY 10 yH (h := ?_)
          refine tkY 11 yH (h := ?_)
          refine tkY 12 yH (h := ?_)
          refine tkY 13 yH (h := ?_)
          refine wpAnyH_ready (rs := [14]) (by kernel_rfl) (by simp) ?_
          refine AllReadyH.cons (o := ?ood14) ?hid14 (fun K hK => ?hcd14) AllReadyH.nil
          case hid14 => (simp only [List.getElem?_toArray, List.getElem?_cons_zero, List.getElem?_cons_succ]; rfl)
          go_simp
          with_reducible refine (hi2 _).mono ?_
          rintro e w2 ⟨rfl, f2⟩
          have FA := Lib.hid (FA.out.trans f2)
          have hY := HY.out _ FA.out
          clear f2
          go_wp2_with fail
          refine hK.out _ _ (hY) (fun yH => ?_)
          clear hK K
          try simp only [Act.put, List.setIfInBounds_toArray, List.set_cons_zero, List.set_cons_succ]
          refine tkY 15 yH (h := ?_)
          refine tkY 16 yH (h := ?_)
          refine tkY 17 yH (h := ?_)
          refine tkY 18 yH (h := ?_)
          refine tkY 19 yH (h := ?_)
          refine tkY 20 yH (h := ?_)
          refine tkY 21 yH (h := ?_)
          refine tkY 22 yH (h := ?_)
          refine tkY 23 yH (h := ?_)
          refine tkY 24 yH (h := ?_)
          refine tkY 25 yH (h := ?_)
          refine tkY 26 yH (h := ?_)
          refine tkY 27 yH (h := ?_)
          refine tkY 28 yH (h := ?_)
          refine tkY 29 yH (h := ?_)
          refine tkN 30 yH (h := ?_)
          refine tkN 31 yH (h := ?_)
          refine tkN 32 yH (h := ?_)
          refine tkN 33 yH (h := ?_)
          refine tkN 34 yH (h := ?_)
          refine tkN 35 yH (h := ?_)
          refine tkN 36 yH (h := ?_)
          refine tkN 37 yH (h := ?_)
          refine tkN 38 yH (h := ?_)
          refine tkN 39 yH (h := ?_)
          refine tkN 40 yH (h := ?_)
          refine tkN 41 yH (h := ?_)
          refine tkN 42 yH (h := ?_)
          refine tkN 43 yH (h := ?_)
          refine tkN 44 yH (h := ?_)
          refine tkN 45 yH (h := ?_)
          refine tkN 46 yH (h := ?_)
          refine tkY 47 yH (h := ?_)
          refine wpAnyH_done (by kernel_rfl) ?_ _
          have d0 := hY.2.2.2.1
          have d1 := hY.2.2.2.2.1
          have d2 := hY.2.2.2.2.2
          have F2 := Lib.hid ((HF.out.trans FA.out).alloc (.cells #[.int .i64 x, .int .i64 m, .int .i64 j] 84))
          have HK := Lib.hid (show OwnZ (w2.alloc (.cells #[.int .i64 x, .int .i64 m, .int .i64 j] 84)) w.heap.size (.slice (some ⟨g2, 0, none⟩) (n + 1) cap) LL from own_keep HO0.out (FA.out.alloc _))
          have HB2 := Lib.hid (Blk.new w2 84 #[.int .i64 x, .int .i64 m, .int .i64 j])
          have hll : LL.length ≤ 1048576 := by rw [HLn.out]; omega
          have hb2 : w.heap.size ≤ (w2.alloc (.cells #[.int .i64 x, .int .i64 m, .int .i64 j] 84)).heap.size := F2.out.size
          clear hY
          go_wp2_with (at_builtin; go_must (refine wpList_appZ rfl _ _ rfl rfl w.heap.size _ LL rfl HK.out _ (x, m, j) rfl HB2.out hll hb2 ?_); intro v1 W1 hO1 hg1 hob1)
          have HO1 := Lib.hid hO1
          have HF1 := Lib.hid (own_fr HK.out hg1 F2.out (Nat.le_refl _))
          clear hO1 hg1 hob1
          go_wp2_with fail
          go_roundw
          case rel => exact ⟨k + 1, by omega, by go_num, by rw [HS.out]; exact HO1.out, HF1.out⟩
          case measure => simp [intOf]; omega
        cases s2
        · clear w2s
          go_wp2_with fail
          refine wp_region_held_drew (S := fun W => W.cell? ⟨g2, n * 3, none⟩ = some (.int .i64 x') ∧ W.cell? ⟨g2, n * 3 + 1, none⟩ = some (.int .i64 m') ∧ W.cell? ⟨g2, n * 3 + 2, none⟩ = some (.int .i64 j') ∧ W.cell? ⟨g, o + k * 3, none⟩ = some (.int .i64 x) ∧ W.cell? ⟨g, o + k * 3 + 1, none⟩ = some (.int .i64 m) ∧ W.cell? ⟨g, o + k * 3 + 2, none⟩ = some (.int .i64 j)) (by kernel_rfl) (hY) (fun yH => ?_)
          refine tkY 0 yH (h := ?_)
          refine tkY 1 yH (h := ?_)
          refine tkY 2 yH (h := ?_)
          refine tkY 3 yH (h := ?_)
          refine tkY 4 yH (h := ?_)
          refine tkY 5 yH (h := ?_)
          refine tkY 6 yH (h := ?_)
          refine wpAnyH_ready (rs := [7]) (by kernel_rfl) (by simp) ?_
          refine AllReadyH.cons (o := ?ooe7) ?hie7 (fun K hK => ?hce7) AllReadyH.nil
          case hie7 => (simp only [List.getElem?_toArray, List.getElem?_cons_zero, List.getElem?_cons_succ]; rfl)
          go_simp
          with_reducible refine (hi1 _).mono ?_
          rintro e w1 ⟨rfl, f1⟩
          have FA := Lib.hid (show Fr [] wr w1 from (Fr.refl [] _).drew.trans f1)
          have hY := HY.out _ FA.out
          clear f1
          go_wp2_with fail
          refine hK.out _ _ (hY) (fun yH => ?_)
          clear hK K
          try simp only [Act.put, List.setIfInBounds_toArray, List.set_cons_zero, List.set_cons_succ]
          refine tkY 8 yH (h := ?_)
          refine tkY 9 yH (h := ?_)
          refine tkY 10 yH (h := ?_)
          refine tkY 11 yH (h := ?_)
          refine tkY 12 yH (h := ?_)
          refine tkY 13 yH (h := ?_)
          refine wpAnyH_ready (rs := [14]) (by kernel_rfl) (by simp) ?_
          refine AllReadyH.cons (o := ?ooe14) ?hie14 (fun K hK => ?hce14) AllReadyH.nil
          case hie14 => (simp only [List.getElem?_toArray, List.getElem?_cons_zero, List.getElem?_cons_succ]; rfl)
          go_simp
          with_reducible refine (hi2 _).mono ?_
          rintro e w2 ⟨rfl, f2⟩
          have FA := Lib.hid (FA.out.trans f2)
          have hY := HY.out _ FA.out
          clear f2
          go_wp2_with fail
          refine hK.out _ _ (hY) (fun yH => ?_)
          clear hK K
          try simp only [Act.put, List.setIfInBounds_toArray, List.set_cons_zero, List.set_cons_succ]
          refine tkY 15 yH (h := ?_)
          refine tkY 16 yH (h := ?_)
          refine tkY 17 yH (h := ?_)
          refine tkY 18 yH (h := ?_)
          refine tkY 19 yH (h := ?_)
          refine tkY 20 yH (h := ?_)
          refine tkY 21 yH (h := ?_)
          refine tkY 22 yH (h := ?_)
          refine tkY 23 yH (h := ?_)
          refine tkY 24 yH (h := ?_)
          refine tkY 25 yH (h := ?_)
          refine tkY 26 yH (h := ?_)
          refine tkY 27 yH (h := ?_)
          refine tkY 28 yH (h := ?_)
          refine tkY 29 yH (h := ?_)
          refine tkY 30 yH (h := ?_)
          refine tkY 31 yH (h := ?_)
          refine tkY 32 yH (h := ?_)
          refine tkY 33 yH (h := ?_)
          refine tkY 34 yH (h := ?_)
          refine tkY 35 yH (h := ?_)
          refine tkY 36 yH (h := ?_)
          refine tkY 37 yH (h := ?_)
          refine tkY 38 yH (h := ?_)
          refine tkY 39 yH (h := ?_)
          refine tkY 40 yH (h := ?_)
          refine tkY 41 yH (h := ?_)
          refine tkY 42 yH (h := ?_)
          refine tkY 43 yH (h := ?_)
          refine tkY 44 yH (h := ?_)
          refine tkY 45 yH (h := ?_)
          refine tkY 46 yH (h := ?_)
          refine tkY 47 yH (h := ?_)
          refine wpAnyH_done (by kernel_rfl) ?_ _
          have d0 := hY.2.2.2.1
          have d1 := hY.2.2.2.2.1
          have d2 := hY.2.2.2.2.2
          have F2 := Lib.hid ((HF.out.trans FA.out).alloc (.cells #[.int .i64 x, .int .i64 m, .int .i64 j] 84))
          have HK := Lib.hid (show OwnZ (w2.alloc (.cells #[.int .i64 x, .int .i64 m, .int .i64 j] 84)) w.heap.size (.slice (some ⟨g2, 0, none⟩) (n + 1) cap) LL from own_keep HO0.out (FA.out.alloc _))
          have HB2 := Lib.hid (Blk.new w2 84 #[.int .i64 x, .int .i64 m, .int .i64 j])
          have hll : LL.length ≤ 1048576 := by rw [HLn.out]; omega
          have hb2 : w.heap.size ≤ (w2.alloc (.cells #[.int .i64 x, .int .i64 m, .int .i64 j] 84)).heap.size := F2.out.size
          clear hY
          go_wp2_with (at_builtin; go_must (refine wpList_appZ rfl _ _ rfl rfl w.heap.size _ LL rfl HK.out _ (x, m, j) rfl HB2.out hll hb2 ?_); intro v1 W1 hO1 hg1 hob1)
          have HO1 := Lib.hid hO1
          have HF1 := Lib.hid (own_fr HK.out hg1 F2.out (Nat.le_refl _))
          clear hO1 hg1 hob1
          go_wp2_with fail
          go_roundw
          case rel => exact ⟨k + 1, by omega, by go_num, by rw [HS.out]; exact HO1.out, HF1.out⟩
          case measure => simp [intOf]; omega
        · go_wp2_with fail
          refine wp_region_held_drew (S := fun W => W.cell? ⟨g2, n * 3, none⟩ = some (.int .i64 x') ∧ W.cell? ⟨g2, n * 3 + 1, none⟩ = some (.int .i64 m') ∧ W.cell? ⟨g2, n * 3 + 2, none⟩ = some (.int .i64 j') ∧ W.cell? ⟨g, o + k * 3, none⟩ = some (.int .i64 x) ∧ W.cell? ⟨g, o + k * 3 + 1, none⟩ = some (.int .i64 m) ∧ W.cell? ⟨g, o + k * 3 + 2, none⟩ = some (.int .i64 j)) (by kernel_rfl) (hY) (fun yH => ?_)
          refine tkY 0 yH (h := ?_)
          refine tkY 1 yH (h := ?_)
          refine tkY 2 yH (h := ?_)
          refine tkY 3 yH (h := ?_)
          refine tkY 4 yH (h := ?_)
          refine tkY 5 yH (h := ?_)
          refine tkY 6 yH (h := ?_)
          refine wpAnyH_ready (rs := [7]) (by kernel_rfl) (by simp) ?_
          refine AllReadyH.cons (o := ?ooz7) ?hiz7 (fun K hK => ?hcz7) AllReadyH.nil
          case hiz7 => (simp only [List.getElem?_toArray, List.getElem?_cons_zero, List.getElem?_cons_succ]; rfl)
          go_simp
          with_reducible refine (hi1 _).mono ?_
          rintro e w1 ⟨rfl, f1⟩
          have FA := Lib.hid (show Fr [] wr w1 from (Fr.refl [] _).drew.trans f1)
          have hY := HY.out _ FA.out
          clear f1
          go_wp2_with fail
          refine hK.out _ _ (hY) (fun yH => ?_)
          clear hK K
          try simp only [Act.put, List.setIfInBounds_toArray, List.set_cons_zero, List.set_cons_succ]
          refine tkY 8 yH (h := ?_)
          refine tkY 9 yH (h := ?_)
          refine tkY 10 yH (h := ?_)
          refine tkY 11 yH (h := ?_)
          refine tkY 12 yH (h := ?_)
          refine tkY 13 yH (h := ?_)
          refine wpAnyH_ready (rs := [14]) (by kernel_rfl) (by simp) ?_
          refine AllReadyH.cons (o := ?ooz14) ?hiz14 (fun K hK => ?hcz14) AllReadyH.nil
          case hiz14 => (simp only [List.getElem?_toArray, List.getElem?_cons_zero, List.getElem?_cons_succ]; rfl)
          go_simp
          with_reducible refine (hi2 _).mono ?_
          rintro e w2 ⟨rfl, f2⟩
          have FA := Lib.hid (FA.out.trans f2)
          have hY := HY.out _ FA.out
          clear f2
          go_wp2_with fail
          refine hK.out _ _ (hY) (fun yH => ?_)
          clear hK K
          try simp only [Act.put, List.setIfInBounds_toArray, List.set_cons_zero, List.set_cons_succ]
          refine tkY 15 yH (h := ?_)
          refine tkY 16 yH (h := ?_)
          refine tkY 17 yH (h := ?_)
          refine tkY 18 yH (h := ?_)
          refine tkY 19 yH (h := ?_)
          refine tkY 20 yH (h := ?_)
          refine tkY 21 yH (h := ?_)
          refine tkY 22 yH (h := ?_)
          refine tkY 23 yH (h := ?_)
          refine tkY 24 yH (h := ?_)
          refine tkY 25 yH (h := ?_)
          refine tkY 26 yH (h := ?_)
          refine tkY 27 yH (h := ?_)
          refine tkY 28 yH (h := ?_)
          refine tkY 29 yH (h := ?_)
          refine tkY 30 yH (h := ?_)
          refine tkY 31 yH (h := ?_)
          refine tkY 32 yH (h := ?_)
          refine tkY 33 yH (h := ?_)
          refine tkY 34 yH (h := ?_)
          refine tkY 35 yH (h := ?_)
          refine tkY 36 yH (h := ?_)
          refine tkY 37 yH (h := ?_)
          refine tkY 38 yH (h := ?_)
          refine tkY 39 yH (h := ?_)
          refine tkY 40 yH (h := ?_)
          refine tkY 41 yH (h := ?_)
          refine tkY 42 yH (h := ?_)
          refine tkY 43 yH (h := ?_)
          refine tkY 44 yH (h := ?_)
          refine tkY 45 yH (h := ?_)
          refine tkY 46 yH (h := ?_)
          refine tkY 47 yH (h := ?_)
          refine wpAnyH_done (by kernel_rfl) ?_ _
          obtain ⟨-, y1, -, -, y4, -⟩ := hY
          have z1 := (HR2.out.fr FA.out (by simp)).frozen (n * 3 + 1)
          have y1' : w2.drew.cell? ⟨g2, n * 3 + 1, none⟩ = some (.int .i64 m') := y1
          have y4' : w2.drew.cell? ⟨g, o + k * 3 + 1, none⟩ = some (.int .i64 m) := y4
          have z1' : w2.drew.frozen? ⟨g2, n * 3 + 1, none⟩ = false := z1
          have i2 : n < cap := by omega
          have i3 : ((n + 1 : Nat) : Int) ≤ cap := by omega
          have HFIN := Lib.hid (show OwnZ (w2.setCell ⟨g2, n * 3 + 1, none⟩ (.int .i64 (m' + m))).drew w.heap.size (.slice (some ⟨g2, 0, none⟩) (n + 1) cap) (M ++ [(x', m' + m, j')]) ∧ Fr [] w (w2.setCell ⟨g2, n * 3 + 1, none⟩ (.int .i64 (m' + m))).drew from by
            constructor
            · have h5 := HR2.out.fr FA.out (by simp)
              rw [← HLL.out] at h5
              have h6 := h5.setL (m' + m)
              rw [HNN.out] at h6
              have h7 := h6.own (base := w.heap.size) hgb
              have e : (M ++ [(x', m' + m, j')]).length = n + 1 := by simp [HNN.out]
              rw [e] at h7
              exact h7
            · exact ((HF.out.trans FA.out).setCell (p := ⟨g2, n * 3 + 1, none⟩) (.inr hgb) _).drew)
          go_wp2_with fail
          apply cutZ
          · intro key
            go_region
            all_goals exact key
          · go_wp2_with fail
            go_roundw
            case rel => exact ⟨k + 1, by omega, by go_num, by rw [HS.out]; exact HFIN.out.1, HFIN.out.2⟩
            case measure => simp [intOf]; omega
    · obtain rfl : k = N := by omega
      have b0 : decide ((k : Int) < k) = false := by simp
      have b0' : decide (k < k) = false := by simp
      go_wp2_with fail
      go_ret
      exact ⟨_, rfl, by rw [← HJ.out]; exact HO.out, HF.out⟩
end Go.Proofs.YtgoogihfggndpaaGreatDoor
