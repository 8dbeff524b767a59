/- Several texts in one. -/
import Derived.Test.YtkapkbiccppldaaGreatDoorGD
import Derived.Test.YtkapkbiccppldaaGreatDoorGI
import Derived.Test.YtkapkbiccppldaaGreatDoorKB
import Derived.BigQuiet
import Derived.Deep.RegionLaw
/- The document's ring. -/
namespace Go.Proofs.YtkapkbiccppldaaGreatDoor
set_option linter.unusedVariables false
set_option linter.unusedSimpArgs false
open Go.RowKit

structure IsG (W : World) (p : Nat) (ad : Option Addr) (cap : Nat) (R : List Nat) (b : Nat) : Prop where
  st : Blk W p 92 #[.slice ad R.length cap, .int .i64 b]
  row : RowV W (p + 1) ad cap R
def IsGx (W : World) (p : Nat) (R : List Nat) (b : Nat) : Prop := ∃ ad cap, IsG W p ad cap R b
section
variable {w W W' : World} {p : Nat} {ad : Option Addr} {cap : Nat} {R : List Nat} {b x : Nat}
theorem IsG.fr {S : List Nat} (h : IsG W p ad cap R b) (hf : Fr S W W') (hS : ∀ k ∈ S, k < p) : IsG W' p ad cap R b :=
  ⟨h.st.fr hf (fun hm => Nat.lt_irrefl _ (hS p hm)), h.row.fr hf (fun k hk => Nat.lt_succ_of_lt (hS k hk))⟩
theorem IsG.fr0 (h : IsG W p ad cap R b) (hf : Fr [] W W') : IsG W' p ad cap R b := h.fr hf (by simp)
theorem IsGx.fr {S : List Nat} (h : IsGx W p R b) (hf : Fr S W W') (hS : ∀ k ∈ S, k < p) : IsGx W' p R b := by
  obtain ⟨ad, cap, h⟩ := h
  exact ⟨ad, cap, h.fr hf hS⟩
theorem IsGx.fr0 (h : IsGx W p R b) (hf : Fr [] W W') : IsGx W' p R b := h.fr hf (by simp)
/-- An entry's place; -1: it isn't there. -/
def fnd (R : List Nat) (x : Nat) : Int := if x ∈ R then (R.idxOf x : Int) else -1
theorem fnd_no (h : x ∉ R) : fnd R x = -1 := if_neg h
theorem fnd_at {A B : List Nat} (h : x ∉ A) : fnd (A ++ x :: B) x = A.length := by
  unfold fnd
  rw [if_pos (List.mem_append.2 (.inr (List.mem_cons_self ..))), List.idxOf_append, if_neg h, List.idxOf_cons_self, Nat.zero_add]
theorem fnd_hit {k : Nat} (hk : k < R.length) (he : R[k] = x) (hn : ∀ j (h : j < k), R[j]'(by omega) ≠ x) : fnd R x = k := by
  have h1 : R = R.take k ++ x :: R.drop (k + 1) := by
    conv => lhs; rw [← List.take_append_drop k R, List.drop_eq_getElem_cons hk, he]
  have h2 : x ∉ R.take k := fun hm => by
    obtain ⟨j, hj, e⟩ := List.mem_iff_getElem.1 hm
    rw [List.length_take] at hj
    rw [List.getElem_take] at e
    exact hn j (by omega) e
  have := fnd_at (B := R.drop (k + 1)) h2
  rw [← h1, List.length_take] at this
  rw [this]
  congr 1
  omega
theorem fnd_miss (hn : ∀ j (h : j < R.length), R[j] ≠ x) : fnd R x = -1 := fnd_no (fun hm => by
  obtain ⟨j, hj, e⟩ := List.mem_iff_getElem.1 hm
  exact hn j hj e)
set_option maxRecDepth 100000 in
theorem xfind (h : IsG w p ad cap R b) (hl : R.length ≤ 1048576) (x : Nat) : Calls Tryz.prog 154 #[.pointer (some ⟨p, 0, none⟩), .int .i64 x] w fun e w' => e = .returned (.int .i64 (fnd R x)) ∧ Fr [] w w' := by
  have H := Lib.hid h
  generalize hn : R.length = n at *
  have HN := Lib.hid hn
  clear h hn
  go_enter Tryz.func154, Tryz.ntmps154
  go_wp2_with fail
  go_loopw [5] (fun i W => ∃ k : Nat, k ≤ n ∧ i = .int .i64 k ∧ Fr [] w W ∧ Hid (∀ j (h : j < k) (h' : j < R.length), R[j] ≠ x)) (fun i _ => n - (intOf i).toNat)
  case atStart => exact ⟨0, by omega, rfl, Fr.refl _ _, Lib.hid (fun j h => absurd h (Nat.not_lt_zero _))⟩
  case round =>
    obtain ⟨k, hk, rfl, hF, hno⟩ := hrel
    have HF := Lib.hid hF
    have hB := (H.out.fr0 hF).st
    rw [HN.out] at hB
    have d0 := hB.cell 0
    simp at d0
    by_cases hlt : k < n
    · have hkl : k < R.length := by have := HN.out; omega
      obtain ⟨g1, rfl, _, r1⟩ := H.out.row (by omega)
      have cY := (r1.fr hF (by simp)).cell k hkl
      have b1 : decide ((k : Int) < n) = true := by simp; omega
      have b1' : decide (k < n) = true := by simp; omega
      have hg2 : (0 : Int) ≤ k := by omega
      have hg3 : (k : Int) < n := by omega
      have w1 : IntKind.i64.wrap ((k : Int) + 1) = (k : Int) + 1 := IntWalk.i64_in _ (by omega)
      have hHit := Lib.hid (fun (e : R[k] = x) => fnd_hit hkl e (fun j h => hno.out j h (by omega)))
      have hMis := Lib.hid (fun (e : R[k] ≠ x) => (show ∀ j (h : j < k + 1) (h' : j < R.length), R[j] ≠ x from fun j h h' => by
        rcases Nat.lt_or_ge j k with h1 | h1
        · exact hno.out j h1 h'
        · have : j = k := by omega
          subst this; exact e))
      have hno' := hno
      clear hno
      generalize R[k] = y at *
      by_cases hxy : y = x
      · subst hxy
        have e1 : ((y : Int) == y) = true := by simp
        clear hF r1 hB
        go_wp2_with fail
        go_ret
        exact ⟨by rw [hHit.out (by first | exact rfl | trivial)]; rfl, HF.out⟩
      · have e1 : ((y : Int) == x) = false := by simp; omega
        clear hF r1 hB
        go_wp2_with fail
        go_roundw
        case rel => exact ⟨k + 1, by omega, by go_num, HF.out, Lib.hid (hMis.out hxy)⟩
        case measure => simp [intOf]; omega
    · obtain rfl : k = n := by omega
      have b1 : decide ((k : Int) < k) = false := by simp
      have b1' : decide (k < k) = false := by simp
      have hM := Lib.hid (fnd_miss (R := R) (x := x) (fun j h => hno.out j (by have := HN.out; omega) h))
      clear hF hno hB
      go_wp2_with fail
      go_ret
      exact ⟨by rw [hM.out]; rfl, HF.out⟩
theorem xhand (h : IsG w p ad cap R b) : Calls Tryz.prog 66 #[.pointer (some ⟨p, 0, none⟩)] w fun e w' => e = .returned (.int .i64 (R.headD 0 : Nat)) ∧ Fr [] w w' := by
  have d0 := h.st.cell 0
  simp at d0
  cases R with
  | nil =>
    have b1 : ((([] : List Nat).length : Nat) : Int) = 0 := rfl
    clear h
    go_enter Tryz.func66, Tryz.ntmps66
    go_wp2_with fail
    go_ret
    exact ⟨rfl, Fr.refl _ _⟩
  | cons a T =>
    obtain ⟨g1, rfl, _, r1⟩ := h.row (by simp)
    have c0 := r1.cell 0 (by simp)
    simp at c0
    have b1 : ((((a :: T).length : Nat) : Int) == 0) = false := by rw [List.length_cons]; simp; omega
    have b2 : (0 : Int) < ((a :: T).length : Nat) := by rw [List.length_cons]; omega
    clear h r1
    generalize (a :: T).length = n at *
    go_enter Tryz.func66, Tryz.ntmps66
    go_wp2_with fail
    go_ret
    exact ⟨rfl, Fr.refl _ _⟩
end
end Go.Proofs.YtkapkbiccppldaaGreatDoor

/- The document's ring: next, Insert, Remove, Turn, Brush, Move. -/
namespace Go.Proofs.YtkapkbiccppldaaGreatDoor
set_option linter.unusedVariables false
set_option linter.unusedSimpArgs false
open Go.RowKit

theorem step_ap7 {P : Program} {ops : Array Oper} {o : Oper} {a : Act} {w : World} {K : Act → World → Prop} {Q : Exit → Act → World → Prop} {E : Prop}
    (hg : o.guard = none) (s x : Operand) (t : TypeId) (hop : o.op = Op.call { callee := Callee.builtin Builtin.append, args := #[s, x], argTypes := #[t, t] }) (hty : o.type = t)
    (vs vx v' : Value) (w' : World) (hs : a.eval s = vs) (hx : a.eval x = vx) (hrun : (Builtin.append_ #[t, t] t #[vs, vx]).run P w = .ok v' w')
    (hK : K (a.put o.dst v') w') : if Region.wanted o (yielded ops a.tmps) = true then Oper.wp P o a w K Q else E := by
  have hw : Region.wanted o (yielded ops a.tmps) = true := by simp [Region.wanted, hg]
  rw [if_pos hw]
  subst hty
  unfold Oper.wp
  simp [execOp, hop, resolve, invoke, builtin, hs, hx, hrun, Result.andThen]
  exact hK
theorem cutG7 {G H : Prop} (f : G → H) (g : G) : H := f g
section
variable {w W W' : World} {p : Nat} {ad : Option Addr} {cap : Nat} {R A B : List Nat} {b x : Nat}
theorem nextR {i : Nat} (A B : List Nat) (x : Nat) (hi : i = (A.length + 1) % (A ++ x :: B).length) (h2 : 2 ≤ (A ++ x :: B).length) : (A ++ x :: B)[i]? = some ((B ++ A).headD 0) := by
  rw [List.length_append, List.length_cons] at hi h2
  cases B with
  | nil =>
    have : i = 0 := by rw [hi, List.length_nil, show A.length + (0 + 1) = A.length + 1 by omega, Nat.mod_self]
    subst this
    cases A with
    | nil => simp at h2
    | cons a A => rfl
  | cons c B =>
    have : i = A.length + 1 := by rw [hi, Nat.mod_eq_of_lt (by simp)]
    subst this
    rw [List.getElem?_append_right (by omega)]
    simp
set_option maxRecDepth 100000 in
theorem xnext (h : IsG w p ad cap (A ++ x :: B) b) (hn : x ∉ A) (hl : (A ++ x :: B).length ≤ 1048576) : Calls Tryz.prog 155 #[.pointer (some ⟨p, 0, none⟩), .int .i64 x] w fun e w' => e = .returned (.int .i64 ((B ++ A).headD 0 : Nat)) ∧ Fr [] w w' := by
  have d0 := h.st.cell 0
  simp only [List.getElem?_toArray, List.getElem?_cons_zero] at d0
  have HF := Lib.hid (fun W (hW : IsG W p ad cap (A ++ x :: B) b) => xfind hW hl x)
  rw [fnd_at hn] at HF
  have HH := Lib.hid h
  by_cases h1 : (A ++ x :: B).length < 2
  · have e0 : (B ++ A).headD 0 = 0 := by
      rw [List.length_append, List.length_cons] at h1
      have hA : A = [] := List.length_eq_zero_iff.1 (by omega)
      have hB : B = [] := List.length_eq_zero_iff.1 (by omega)
      rw [hA, hB]; rfl
    rw [e0]
    have b1 : decide (((A ++ x :: B).length : Int) < 2) = true := by simp only [decide_eq_true_eq]; omega
    have b1' : decide ((A ++ x :: B).length < 2) = true := by simp only [decide_eq_true_eq]; omega
    generalize (A ++ x :: B).length = n at *
    clear h h1 HH HF e0 hl hn
    go_enter Tryz.func155, Tryz.ntmps155
    go_wp2_with fail
    go_ret
    exact ⟨rfl, Fr.refl _ _⟩
  · have b1 : decide (((A ++ x :: B).length : Int) < 2) = false := by simp only [decide_eq_false_iff_not]; omega
    have b1' : decide ((A ++ x :: B).length < 2) = false := by simp only [decide_eq_false_iff_not]; omega
    obtain ⟨g, rfl, _, hr⟩ := h.row (by omega)
    have hlA : A.length + 1 ≤ (A ++ x :: B).length := by rw [List.length_append, List.length_cons]; omega
    obtain ⟨i, hi⟩ : ∃ i, i = (A.length + 1) % (A ++ x :: B).length := ⟨_, rfl⟩
    have hil : i < (A ++ x :: B).length := by rw [hi]; exact Nat.mod_lt _ (by omega)
    have hv := nextR A B x hi (by omega)
    rw [List.getElem?_eq_getElem hil] at hv
    have hv2 := Option.some.inj hv
    have HC := Lib.hid (fun V (hV : Fr [] w V) => (hr.fr hV (by simp)).cell i hil)
    rw [hv2] at HC
    generalize (B ++ A).headD 0 = y at *
    have hm : Int.tmod ((A.length : Int) + 1) ((A ++ x :: B).length : Int) = i := by
      rw [hi]
      have e1 : ((A.length : Int) + 1) = ((A.length + 1 : Nat) : Int) := by omega
      rw [e1, ← Int.ofNat_tmod]
    have w1 : IntKind.i64.wrap ((A.length : Int) + 1) = (A.length : Int) + 1 := IntWalk.i64_in _ (by omega)
    have w2 : IntKind.i64.wrap (i : Int) = i := IntWalk.i64_in _ (by omega)
    have n0 : ((A ++ x :: B).length : Int) ≠ 0 := by omega
    have n2 : (A ++ x :: B).length ≠ 0 := by omega
    have n1 : ((A ++ x :: B).length : Int) ≠ -1 := by omega
    have i0 : (0 : Int) ≤ i := by omega
    have i1 : (i : Int) < (A ++ x :: B).length := by omega
    have HST := Lib.hid (fun V (hV : Fr [] w V) => (show V.cell? ⟨p, 0, none⟩ = some (.slice (some ⟨g, 0, none⟩) (A ++ x :: B).length cap) from (HH.out.fr0 hV).st.cell 0))
    clear h h1 hr hv hv2 hi hil hl hlA hn
    generalize A.length = a at *
    generalize (A ++ x :: B).length = n at *
    go_enter Tryz.func155, Tryz.ntmps155
    go_wp2_with fail
    have hY := And.intro (HST.out _ (Fr.refl _ _).drew) (HC.out _ (Fr.refl _ _).drew)
    refine wp_region_held_drew (S := fun W => W.cell? ⟨p, 0, none⟩ = some (.slice (some ⟨g, 0, none⟩) n cap) ∧ W.cell? ⟨g, i, none⟩ = some (.int .i64 y)) (by kernel_rfl) (hY) (fun hHeld => ?_)
    refine wpAnyH_take (i := 0) (oi := ?ooa0) (v := ?vva0) ?hia0 (by kernel_rfl) (by kernel_rfl) (by kernel_rfl) ?hqa0 (Or.inl ⟨?hwa0, ?hha0⟩) hHeld ?rra0
    case hia0 => (simp only [List.getElem?_toArray, List.getElem?_cons_zero, List.getElem?_cons_succ]; rfl)
    case hqa0 => exact fun _ _ _ h => h
    case hwa0 => rfl
    case hha0 => (intro w hSw; (try dsimp only at hSw); go_simp; try with_reducible rfl)
    try simp only [Act.put, List.setIfInBounds_toArray, List.set_cons_zero, List.set_cons_succ]
    refine wpAnyH_take (i := 1) (oi := ?ooa1) (v := ?vva1) ?hia1 (by kernel_rfl) (by kernel_rfl) (by kernel_rfl) ?hqa1 (Or.inl ⟨?hwa1, ?hha1⟩) hHeld ?rra1
    case hia1 => (simp only [List.getElem?_toArray, List.getElem?_cons_zero, List.getElem?_cons_succ]; rfl)
    case hqa1 => exact fun _ _ _ h => h
    case hwa1 => rfl
    case hha1 => (intro w hSw; (try dsimp only at hSw); go_simp; try with_reducible rfl)
    try simp only [Act.put, List.setIfInBounds_toArray, List.set_cons_zero, List.set_cons_succ]
    refine wpAnyH_take (i := 2) (oi := ?ooa2) (v := ?vva2) ?hia2 (by kernel_rfl) (by kernel_rfl) (by kernel_rfl) ?hqa2 (Or.inl ⟨?hwa2, ?hha2⟩) hHeld ?rra2
    case hia2 => (simp only [List.getElem?_toArray, List.getElem?_cons_zero, List.getElem?_cons_succ]; rfl)
    case hqa2 => exact fun _ _ _ h => h
    case hwa2 => rfl
    case hha2 => (intro w hSw; (try dsimp only at hSw); go_simp; try with_reducible rfl)
    try simp only [Act.put, List.setIfInBounds_toArray, List.set_cons_zero, List.set_cons_succ]
    refine wpAnyH_take (i := 3) (oi := ?ooa3) (v := ?vva3) ?hia3 (by kernel_rfl) (by kernel_rfl) (by kernel_rfl) ?hqa3 (Or.inl ⟨?hwa3, ?hha3⟩) hHeld ?rra3
    case hia3 => (simp only [List.getElem?_toArray, List.getElem?_cons_zero, List.getElem?_cons_succ]; rfl)
    case hqa3 => exact fun _ _ _ h => h
    case hwa3 => rfl
    case hha3 => (intro w hSw; (try dsimp only at hSw); go_simp; try with_reducible rfl)
    try simp only [Act.put, List.setIfInBounds_toArray, List.set_cons_zero, List.set_cons_succ]
    refine wpAnyH_take (i := 4) (oi := ?ooa4) (v := ?vva4) ?hia4 (by kernel_rfl) (by kernel_rfl) (by kernel_rfl) ?hqa4 (Or.inl ⟨?hwa4, ?hha4⟩) hHeld ?rra4
    case hia4 => (simp only [List.getElem?_toArray, List.getElem?_cons_zero, List.getElem?_cons_succ]; rfl)
    case hqa4 => exact fun _ _ _ h => h
    case hwa4 => rfl
    case hha4 => (intro w hSw; (try dsimp only at hSw); go_simp; try with_reducible rfl)
    try simp only [Act.put, List.setIfInBounds_toArray, List.set_cons_zero, List.set_cons_succ]
    refine wpAnyH_take (i := 5) (oi := ?ooa5) (v := ?vva5) ?hia5 (by kernel_rfl) (by kernel_rfl) (by kernel_rfl) ?hqa5 (Or.inl ⟨?hwa5, ?hha5⟩) hHeld ?rra5
    case hia5 => (simp only [List.getElem?_toArray, List.getElem?_cons_zero, List.getElem?_cons_succ]; rfl)
    case hqa5 => exact fun _ _ _ h => h
    case hwa5 => rfl
    case hha5 => (intro w hSw; (try dsimp only at hSw); go_simp; try with_reducible rfl)
    try simp only [Act.put, List.setIfInBounds_toArray, List.set_cons_zero, List.set_cons_succ]
    refine wpAnyH_take (i := 8) (oi := ?ooa6) (v := ?vva6) ?hia6 (by kernel_rfl) (by kernel_rfl) (by kernel_rfl) ?hqa6 (Or.inl ⟨?hwa6, ?hha6⟩) hHeld ?rra6
    case hia6 => (simp only [List.getElem?_toArray, List.getElem?_cons_zero, List.getElem?_cons_succ]; rfl)
    case hqa6 => exact fun _ _ _ h => h
    case hwa6 => rfl
    case hha6 => (intro w hSw; (try dsimp only at hSw); go_simp; try with_reducible rfl)
    try simp only [Act.put, List.setIfInBounds_toArray, List.set_cons_zero, List.set_cons_succ]
    refine wpAnyH_take (i := 9) (oi := ?ooa7) (v := ?vva7) ?hia7 (by kernel_rfl) (by kernel_rfl) (by kernel_rfl) ?hqa7 (Or.inl ⟨?hwa7, ?hha7⟩) hHeld ?rra7
    case hia7 => (simp only [List.getElem?_toArray, List.getElem?_cons_zero, List.getElem?_cons_succ]; rfl)
    case hqa7 => exact fun _ _ _ h => h
    case hwa7 => rfl
    case hha7 => (intro w hSw; (try dsimp only at hSw); go_simp; try with_reducible rfl)
    try simp only [Act.put, List.setIfInBounds_toArray, List.set_cons_zero, List.set_cons_succ]
    refine wpAnyH_take (i := 10) (oi := ?ooa8) (v := ?vva8) ?hia8 (by kernel_rfl) (by kernel_rfl) (by kernel_rfl) ?hqa8 (Or.inl ⟨?hwa8, ?hha8⟩) hHeld ?rra8
    case hia8 => (simp only [List.getElem?_toArray, List.getElem?_cons_zero, List.getElem?_cons_succ]; rfl)
    case hqa8 => exact fun _ _ _ h => h
    case hwa8 => rfl
    case hha8 => (intro w hSw; (try dsimp only at hSw); go_simp; try with_reducible rfl)
    try simp only [Act.put, List.setIfInBounds_toArray, List.set_cons_zero, List.set_cons_succ]
    refine wpAnyH_take (i := 11) (oi := ?ooa9) (v := ?vva9) ?hia9 (by kernel_rfl) (by kernel_rfl) (by kernel_rfl) ?hqa9 (Or.inl ⟨?hwa9, ?hha9⟩) hHeld ?rra9
    case hia9 => (simp only [List.getElem?_toArray, List.getElem?_cons_zero, List.getElem?_cons_succ]; rfl)
    case hqa9 => exact fun _ _ _ h => h
    case hwa9 => rfl
    case hha9 => (intro w hSw; (try dsimp only at hSw); go_simp; try with_reducible rfl)
    try simp only [Act.put, List.setIfInBounds_toArray, List.set_cons_zero, List.set_cons_succ]
    refine wpAnyH_take (i := 12) (oi := ?ooa10) (v := ?vva10) ?hia10 (by kernel_rfl) (by kernel_rfl) (by kernel_rfl) ?hqa10 (Or.inl ⟨?hwa10, ?hha10⟩) hHeld ?rra10
    case hia10 => (simp only [List.getElem?_toArray, List.getElem?_cons_zero, List.getElem?_cons_succ]; rfl)
    case hqa10 => exact fun _ _ _ h => h
    case hwa10 => rfl
    case hha10 => (intro w hSw; (try dsimp only at hSw); go_simp; try with_reducible rfl)
    try simp only [Act.put, List.setIfInBounds_toArray, List.set_cons_zero, List.set_cons_succ]
    refine wpAnyH_ready (rs := [6]) (by kernel_rfl) (by simp) ?_
    refine AllReadyH.cons (o := ?ooa11) ?hia11 (fun K hK => ?hca11) AllReadyH.nil
    case hia11 => (simp only [List.getElem?_toArray, List.getElem?_cons_zero, List.getElem?_cons_succ]; rfl)
    go_simp
    with_reducible refine (HF.out _ (HH.out.fr0 (Fr.refl _ _).drew)).mono ?_
    rintro e w1 ⟨rfl, f1⟩
    have F1 := Lib.hid ((Fr.refl [] w).drew.trans f1)
    have hY := And.intro (HST.out _ F1.out) (HC.out _ F1.out)
    clear f1
    go_wp2_with fail
    refine hK.out _ _ (hY) (fun hHeld => ?_)
    clear hK K
    try simp only [Act.put, List.setIfInBounds_toArray, List.set_cons_zero, List.set_cons_succ]
    refine wpAnyH_take (i := 7) (oi := ?ooa12) (v := ?vva12) ?hia12 (by kernel_rfl) (by kernel_rfl) (by kernel_rfl) ?hqa12 (Or.inl ⟨?hwa12, ?hha12⟩) hHeld ?rra12
    case hia12 => (simp only [List.getElem?_toArray, List.getElem?_cons_zero, List.getElem?_cons_succ]; rfl)
    case hqa12 => exact fun _ _ _ h => h
    case hwa12 => rfl
    case hha12 => (intro w hSw; (try dsimp only at hSw); go_simp; try with_reducible rfl)
    try simp only [Act.put, List.setIfInBounds_toArray, List.set_cons_zero, List.set_cons_succ]
    refine wpAnyH_take (i := 13) (oi := ?ooa13) (v := ?vva13) ?hia13 (by kernel_rfl) (by kernel_rfl) (by kernel_rfl) ?hqa13 (Or.inl ⟨?hwa13, ?hha13⟩) hHeld ?rra13
    case hia13 => (simp only [List.getElem?_toArray, List.getElem?_cons_zero, List.getElem?_cons_succ]; rfl)
    case hqa13 => exact fun _ _ _ h => h
    case hwa13 => rfl
    case hha13 => (intro w hSw; (try dsimp only at hSw); go_simp; try with_reducible rfl)
    try simp only [Act.put, List.setIfInBounds_toArray, List.set_cons_zero, List.set_cons_succ]
    refine wpAnyH_take (i := 14) (oi := ?ooa14) (v := ?vva14) ?hia14 (by kernel_rfl) (by kernel_rfl) (by kernel_rfl) ?hqa14 (Or.inl ⟨?hwa14, ?hha14⟩) hHeld ?rra14
    case hia14 => (simp only [List.getElem?_toArray, List.getElem?_cons_zero, List.getElem?_cons_succ]; rfl)
    case hqa14 => exact fun _ _ _ h => h
    case hwa14 => rfl
    case hha14 => (intro w hSw; (try dsimp only at hSw); go_simp; try with_reducible rfl)
    try simp only [Act.put, List.setIfInBounds_toArray, List.set_cons_zero, List.set_cons_succ]
    refine wpAnyH_take (i := 15) (oi := ?ooa15) (v := ?vva15) ?hia15 (by kernel_rfl) (by kernel_rfl) (by kernel_rfl) ?hqa15 (Or.inl ⟨?hwa15, ?hha15⟩) hHeld ?rra15
    case hia15 => (simp only [List.getElem?_toArray, List.getElem?_cons_zero, List.getElem?_cons_succ]; rfl)
    case hqa15 => exact fun _ _ _ h => h
    case hwa15 => rfl
    case hha15 => (intro w hSw; (try dsimp only at hSw); go_simp; try with_reducible rfl)
    try simp only [Act.put, List.setIfInBounds_toArray, List.set_cons_zero, List.set_cons_succ]
    refine wpAnyH_take (i := 16) (oi := ?ooa16) (v := ?vva16) ?hia16 (by kernel_rfl) (by kernel_rfl) (by kernel_rfl) ?hqa16 (Or.inl ⟨?hwa16, ?hha16⟩) hHeld ?rra16
    case hia16 => (simp only [List.getElem?_toArray, List.getElem?_cons_zero, List.getElem?_cons_succ]; rfl)
    case hqa16 => exact fun _ _ _ h => h
    case hwa16 => rfl
    case hha16 => (intro w hSw; (try dsimp only at hSw); go_simp; try with_reducible rfl)
    try simp only [Act.put, List.setIfInBounds_toArray, List.set_cons_zero, List.set_cons_succ]
    refine wpAnyH_done (by kernel_rfl) ?_ _
    go_wp2_with fail
    go_ret
    exact ⟨rfl, F1.out⟩
theorem cut_mid (A B : List Nat) (x : Nat) : cutL (A ++ x :: B) A.length = A ++ B := by
  unfold cutL
  rw [List.take_left, show A.length + 1 = A.length + 1 from rfl, List.drop_append]
  simp
theorem cut_run2 {w : World} {L : List Nat} {g cap k : Nat} (hr : RowI w g cap L) (hk : k < L.length) (hl : L.length ≤ 1048576) :
    ∃ v1 w1 v2 w2, (Builtin.append_ #[42, 42] 42 #[.slice (some ⟨w.heap.size, 0, none⟩) 0 0, .slice (some ⟨g, 0, none⟩) k cap]).run Tryz.prog (w.alloc (.cells #[] 3)).drew = .ok v1 w1
      ∧ (Builtin.append_ #[42, 42] 42 #[v1, .slice (if cap - (k + 1) = 0 then some ⟨g, 0, none⟩ else some ⟨g, k + 1, none⟩) (L.length - (k + 1)) (cap - (k + 1))]).run Tryz.prog w1 = .ok v2 w2
      ∧ w2.ownsRow w.heap.size 3 1 v2 (cutL L k).length (intC (cutL L k)) ∧ Fr [] w w2 ∧ Fr [] w w1 := by
  have hO0 : (w.alloc (.cells #[] 3)).drew.ownsRow w.heap.size 3 1 (.slice (some ⟨w.heap.size, 0, none⟩) 0 0) ([] : List Nat).length (intC []) := ownJ0 w
  have f0 : Fr [] w (w.alloc (.cells #[] 3)).drew := ((Fr.refl [] w).alloc _).drew
  have hl1 : (L.take k).length = k := by rw [List.length_take]; omega
  have hl2 : (L.drop (k + 1)).length = L.length - (k + 1) := List.length_drop
  have hcap := hr.le
  obtain ⟨v1, w1, e1, hO1, g1⟩ := run_appJ _ _ _ [] hO0 (some ⟨g, 0, none⟩) cap (L.take k) (fun j hj => by
    rw [hl1] at hj
    refine ⟨g, 0, rfl, ?_⟩
    have := (hr.fr f0 (by simp)).cell j (by omega)
    rw [Nat.zero_add, this, List.getElem_take]) (by rw [hl1]; simp; omega) f0.size
  rw [hl1] at e1
  rw [List.nil_append] at hO1
  have f1 : Fr [] w w1 := own_frJ hO0 g1 f0 (Nat.le_refl _)
  obtain ⟨v2, w2, e2, hO2, g2⟩ := run_appJ w1 w.heap.size v1 (L.take k) hO1 (if cap - (k + 1) = 0 then some ⟨g, 0, none⟩ else some ⟨g, k + 1, none⟩) (cap - (k + 1)) (L.drop (k + 1)) (fun j hj => by
    rw [hl2] at hj
    refine ⟨g, k + 1, by rw [if_neg (by omega)], ?_⟩
    have := (hr.fr f1 (by simp)).cell (k + 1 + j) (by omega)
    rw [this, List.getElem_drop]) (by rw [hl1, hl2]; omega) f1.size
  rw [hl2] at e2
  exact ⟨v1, w1, v2, w2, e1, e2, hO2, own_frJ hO1 g2 f1 (Nat.le_refl _), f1⟩
theorem xrem_no (h : IsG w p ad cap R b) (hl : R.length ≤ 1048576) (hx : x ∉ R) : Calls Tryz.prog 58 #[.pointer (some ⟨p, 0, none⟩), .int .i64 x] w fun e w' => e = .returned (.int .i64 7) ∧ Fr [] w w' := by
  have HF := Lib.hid (xfind h hl x)
  rw [fnd_no hx] at HF
  clear h hl hx
  go_enter Tryz.func58, Tryz.ntmps58
  go_wp2_with fail
  with_reducible refine HF.out.mono ?_
  rintro e w1 ⟨rfl, f1⟩
  go_wp2_with fail
  go_ret
  exact ⟨rfl, f1⟩
/-- A row of the call's own is stored. -/
theorem isg_store {v : Value} {l : List Nat} {base : Nat} (hst : Blk W p 92 #[.slice ad x cap, .int .i64 b]) (hv : Rw W base v l) (hb : p + 1 ≤ base) : IsGx (W.setCell ⟨p, 0, none⟩ v) p l b := by
  obtain ⟨ad', cap', rfl, hr⟩ := own_row hv
  have hf : Fr [p] W (W.setCell ⟨p, 0, none⟩ (.slice ad' l.length cap')) := (Fr.refl [p] W).setCell (p := ⟨p, 0, none⟩) (.inl (by simp)) _
  refine ⟨ad', cap', ⟨by simpa using hst.set 0 (.slice ad' l.length cap'), fun h0 => ?_⟩⟩
  obtain ⟨g, e, hg, hr⟩ := hr h0
  exact ⟨g, e, by omega, hr.fr hf (by simp; omega)⟩
set_option maxRecDepth 100000 in
set_option maxHeartbeats 4000000 in
theorem xrem (h : IsG w p ad cap (A ++ x :: B) b) (hn : (A ++ x :: B).Nodup) (hl : (A ++ x :: B).length ≤ 1048576) : Calls Tryz.prog 58 #[.pointer (some ⟨p, 0, none⟩), .int .i64 x] w fun e w' => e = .returned (.int .i64 0) ∧ IsGx w' p (A ++ B) (remB A B b x) ∧ Fr [p] w w' := by
  have hA : x ∉ A := fun m => (List.nodup_append.1 hn).2.2 x m x (List.mem_cons_self ..) rfl
  have HF := Lib.hid (xfind h hl x)
  rw [fnd_at hA] at HF
  have HX := Lib.hid (fun V (hV : IsG V p ad cap (A ++ x :: B) b) => xnext hV hA hl)
  obtain ⟨g, rfl, _, hr⟩ := h.row (by rw [List.length_append, List.length_cons]; omega)
  have hkn : A.length < (A ++ x :: B).length := by rw [List.length_append, List.length_cons]; omega
  have hpb := h.st.lt
  have hcap := hr.le
  have hgp : p + 1 ≤ g := by assumption
  have d0 := h.st.cell 0
  have d1 := h.st.cell 1
  simp only [List.getElem?_toArray, List.getElem?_cons_zero, List.getElem?_cons_succ] at d0 d1
  go_enter Tryz.func58, Tryz.ntmps58
  go_wp2_with fail
  with_reducible refine HF.out.mono ?_
  rintro e w3 ⟨rfl, f3⟩
  have HI3 := Lib.hid (h.fr0 f3)
  have hB3 := (h.fr0 f3).st
  have hr3 := hr.fr f3 (by simp)
  have F3 := Lib.hid f3
  have k0 : decide ((A.length : Int) < 0) = false := by simp only [decide_eq_false_iff_not]; omega
  have d1 := hB3.cell 1
  simp only [List.getElem?_toArray, List.getElem?_cons_zero, List.getElem?_cons_succ] at d1
  clear f3 HF d0
  by_cases hbx : b = x
  · subst hbx
    have b1 : ((b : Int) == b) = true := by simp
    have hX := HX.out _ HI3.out
    have e1 : remB A B b b = (B ++ A).headD 0 := if_pos rfl
    generalize (B ++ A).headD 0 = y at hX e1
    have EB := Lib.hid e1
    clear e1 HX
    go_wp2_with fail
    with_reducible refine hX.mono ?_
    rintro e w4 ⟨rfl, f4⟩
    have hB4 := hB3.fr f4 (by simp)
    have hr4 := hr3.fr f4 (by simp)
    have F4 := Lib.hid (F3.out.trans f4)
    have c1 := hB4.cell 1
    have z1 := hB4.frozen 1
    simp only [List.getElem?_toArray, List.getElem?_cons_zero, List.getElem?_cons_succ] at c1
    clear f4 hX d1 hB3 hr3
    go_upto_region 6 with fail
    have hBV : Blk (w4.setCell ⟨p, 1, none⟩ (.int .i64 y)) p 92 #[.slice (some ⟨g, 0, none⟩) (A ++ b :: B).length cap, .int .i64 y] := by simpa using hB4.set 1 (.int .i64 y)
    have FV : Fr [p] w4 (w4.setCell ⟨p, 1, none⟩ (.int .i64 y)) := (Fr.refl [p] w4).setCell (p := ⟨p, 1, none⟩) (.inl (by simp)) _
    have hrV : RowI (w4.setCell ⟨p, 1, none⟩ (.int .i64 y)) g cap (A ++ b :: B) := hr4.fr FV (by simp; omega)
    have F5 := Lib.hid ((F4.out.nil (S := [p])).trans FV)
    generalize w4.setCell ⟨p, 1, none⟩ (.int .i64 y) = V at *
    clear hB4 hr4 F4 FV z1 c1 HI3
    obtain ⟨v1, w1, v2, w2, E1, E2, O2, fc, fc1⟩ := cut_run2 hrV (k := A.length) hkn hl
    rw [cut_mid] at O2
    obtain ⟨ad2, cap2, rfl, hrow2⟩ := own_row O2
    have HE1 := Lib.hid E1
    have HE2 := Lib.hid E2
    have d0 := hBV.cell 0
    simp only [List.getElem?_toArray, List.getElem?_cons_zero] at d0
    have hY0 : V.drew.cell? ⟨p, 0, none⟩ = some (.slice (some ⟨g, 0, none⟩) (A ++ b :: B).length cap) := (hBV.fr (Fr.refl [] V).drew (by simp)).cell 0
    have hY1 : (V.alloc (.cells #[] 3)).drew.cell? ⟨p, 0, none⟩ = some (.slice (some ⟨g, 0, none⟩) (A ++ b :: B).length cap) := (hBV.fr ((Fr.refl [] V).alloc (.cells #[] 3)).drew (by simp)).cell 0
    have hY2 : w1.cell? ⟨p, 0, none⟩ = some (.slice (some ⟨g, 0, none⟩) (A ++ b :: B).length cap) := (hBV.fr fc1 (by simp)).cell 0
    have hb2 := hBV.fr fc (by simp)
    have hY3 : w2.cell? ⟨p, 0, none⟩ = some (.slice (some ⟨g, 0, none⟩) (A ++ b :: B).length cap) := hb2.cell 0
    have hz := hb2.frozen 0
    have HB2 := Lib.hid hb2
    have FC := Lib.hid (show Fr [p] w w2 from F5.out.trans fc.nil)
    have hV := hBV.lt
    have IS := Lib.hid (isg_store hb2 O2 (by omega))
    clear E1 E2 O2 hrV hBV hb2 fc fc1 hrow2
    generalize (A ++ B).length = n2 at *
    generalize hc2 : (if cap - (A.length + 1) = 0 then (some ⟨g, 0, none⟩ : Option Addr) else some ⟨g, A.length + 1, none⟩) = adx at *
    have hc3 : (if cap = A.length + 1 then (some ⟨g, 0, none⟩ : Option Addr) else some ⟨g, A.length + 1, none⟩) = adx := by
      rw [← hc2]
      by_cases e : cap = A.length + 1
      · rw [if_pos e, if_pos (by omega)]
      · rw [if_neg e, if_neg (by omega)]
    clear h hr hn
    generalize A.length = k at *
    generalize (A ++ b :: B).length = n at *
    have u0 : (0 : Int) ≤ k := by omega
    have u1 : (k : Int) ≤ cap := by omega
    have u1' : k ≤ cap := by omega
    have u3 : (k : Int) + 1 ≤ n := by omega
    have u3' : k + 1 ≤ n := by omega
    have u4 : (n : Int) ≤ cap := by omega
    have u5 : IntKind.i64.wrap ((k : Int) + 1) = (k : Int) + 1 := IntWalk.i64_in _ (by omega)
    have u6 : (0 : Int) ≤ (k : Int) + 1 := by omega
    have u8 : ((k : Int) + 1).toNat = k + 1 := by omega
    apply cutG7
    case f => (intro key; go_region_law (first | (refine step_ap7 rfl (.tmp 24) (.tmp 30) 42 rfl rfl _ _ _ _ (by simp [Act.eval, Act.put]) (by simp [Act.eval, Act.put]) HE1.out ?_) | (refine step_ap7 rfl (.tmp 31) (.tmp 38) 42 rfl rfl _ _ _ _ (by simp [Act.eval, Act.put]) (by simp [Act.eval, Act.put, hc3]) HE2.out ?_)); all_goals exact key)
    go_wp2_with fail
    go_ret
    exact ⟨rfl, by rw [EB.out]; exact IS.out, FC.out.setCell (p := ⟨p, 0, none⟩) (.inl (by simp)) _⟩
  · have b1 : ((b : Int) == x) = false := by simp; omega
    have EB := Lib.hid (show remB A B b x = b from if_neg hbx)
    clear HX
    have hrV := hr3
    have hBV := hB3
    obtain ⟨v1, w1, v2, w2, E1, E2, O2, fc, fc1⟩ := cut_run2 hrV (k := A.length) hkn hl
    rw [cut_mid] at O2
    obtain ⟨ad2, cap2, rfl, hrow2⟩ := own_row O2
    have HE1 := Lib.hid E1
    have HE2 := Lib.hid E2
    have d0 := hBV.cell 0
    simp only [List.getElem?_toArray, List.getElem?_cons_zero] at d0
    have hY0 : w3.drew.cell? ⟨p, 0, none⟩ = some (.slice (some ⟨g, 0, none⟩) (A ++ x :: B).length cap) := (hBV.fr (Fr.refl [] w3).drew (by simp)).cell 0
    have hY1 : (w3.alloc (.cells #[] 3)).drew.cell? ⟨p, 0, none⟩ = some (.slice (some ⟨g, 0, none⟩) (A ++ x :: B).length cap) := (hBV.fr ((Fr.refl [] w3).alloc (.cells #[] 3)).drew (by simp)).cell 0
    have hY2 : w1.cell? ⟨p, 0, none⟩ = some (.slice (some ⟨g, 0, none⟩) (A ++ x :: B).length cap) := (hBV.fr fc1 (by simp)).cell 0
    have hb2 := hBV.fr fc (by simp)
    have hY3 : w2.cell? ⟨p, 0, none⟩ = some (.slice (some ⟨g, 0, none⟩) (A ++ x :: B).length cap) := hb2.cell 0
    have hz := hb2.frozen 0
    have HB2 := Lib.hid hb2
    have FC := Lib.hid (show Fr [p] w w2 from (F3.out.nil (S := [p])).trans fc.nil)
    have hV := hBV.lt
    have IS := Lib.hid (isg_store hb2 O2 (by omega))
    clear E1 E2 O2 hrV hBV hb2 fc fc1 hrow2
    generalize (A ++ B).length = n2 at *
    generalize hc2 : (if cap - (A.length + 1) = 0 then (some ⟨g, 0, none⟩ : Option Addr) else some ⟨g, A.length + 1, none⟩) = adx at *
    have hc3 : (if cap = A.length + 1 then (some ⟨g, 0, none⟩ : Option Addr) else some ⟨g, A.length + 1, none⟩) = adx := by
      rw [← hc2]
      by_cases e : cap = A.length + 1
      · rw [if_pos e, if_pos (by omega)]
      · rw [if_neg e, if_neg (by omega)]
    clear h hr hn
    generalize A.length = k at *
    generalize (A ++ x :: B).length = n at *
    have u0 : (0 : Int) ≤ k := by omega
    have u1 : (k : Int) ≤ cap := by omega
    have u1' : k ≤ cap := by omega
    have u3 : (k : Int) + 1 ≤ n := by omega
    have u3' : k + 1 ≤ n := by omega
    have u4 : (n : Int) ≤ cap := by omega
    have u5 : IntKind.i64.wrap ((k : Int) + 1) = (k : Int) + 1 := IntWalk.i64_in _ (by omega)
    have u6 : (0 : Int) ≤ (k : Int) + 1 := by omega
    have u8 : ((k : Int) + 1).toNat = k + 1 := by omega
    go_wp2_with fail
    apply cutG7
    case f => (intro key; go_region_law (first | (refine step_ap7 rfl (.tmp 24) (.tmp 30) 42 rfl rfl _ _ _ _ (by simp [Act.eval, Act.put]) (by simp [Act.eval, Act.put]) HE1.out ?_) | (refine step_ap7 rfl (.tmp 31) (.tmp 38) 42 rfl rfl _ _ _ _ (by simp [Act.eval, Act.put]) (by simp [Act.eval, Act.put, hc3]) HE2.out ?_)); all_goals exact key)
    go_wp2_with fail
    go_ret
    exact ⟨rfl, by rw [EB.out]; exact IS.out, FC.out.setCell (p := ⟨p, 0, none⟩) (.inl (by simp)) _⟩
end
end Go.Proofs.YtkapkbiccppldaaGreatDoor

/- The document's ring: Insert, Turn, Brush, Move. -/
namespace Go.Proofs.YtkapkbiccppldaaGreatDoor
set_option linter.unusedVariables false
set_option linter.unusedSimpArgs false
open Go.RowKit

/-- An append whose run is known. -/
theorem wpList_runI {P : Program} {w : World} {ops : Array Oper} {rest : List Oper} {o : Oper} {a : Act} {Q : Exit → Act → World → Prop} (hgd : o.guard = none) (s x : Operand) (t : TypeId) (ho : o.op = .call { callee := .builtin .append, args := #[s, x], argTypes := #[t, t] }) (hty : o.type = t)
    (vs vx v' : Value) (w' : World) (hs : a.eval s = vs) (hx : a.eval x = vx) (hrun : (Builtin.append_ #[t, t] t #[vs, vx]).run P w = .ok v' w') (h : wpList P ops Q rest (a.put o.dst v') w') : wpList P ops Q (o :: rest) a w := by
  refine wpList_plain hgd fun K hK => ?_
  have hK' := hK _ _ h
  subst hty
  unfold Oper.wp execOp
  simp only [ho, resolve, invoke, builtin, Sem.run_bind, Sem.run_pure, Result.andThen_ok, List.map_toArray, List.map_cons, List.map_nil, hs, hx, hrun]
  exact hK'
/-- A row, and one more: 'append(append([]int{}, l...), x)', of an empty own row on. -/
theorem app_row {w : World} {l : List Nat} {base cap : Nat} {ad : Option Addr} (hr : RowV w base ad cap l) (hl : l.length ≤ 1048576) :
    ∃ v1 w1, (Builtin.append_ #[42, 42] 42 #[.slice (some ⟨w.heap.size, 0, none⟩) 0 0, .slice ad l.length cap]).run Tryz.prog (w.alloc (.cells #[] 3)) = .ok v1 w1 ∧ Rw w1 w.heap.size v1 l ∧ Fr [] w w1 := by
  have hO0 : (w.alloc (.cells #[] 3)).ownsRow w.heap.size 3 1 (.slice (some ⟨w.heap.size, 0, none⟩) 0 0) ([] : List Nat).length (intC []) := ownJ0 w
  have f0 : Fr [] w (w.alloc (.cells #[] 3)) := (Fr.refl [] w).alloc _
  obtain ⟨v1, w1, e1, hO1, g1⟩ := run_appJ _ _ _ [] hO0 ad cap l (fun j hj => by
    obtain ⟨g, e, _, hr⟩ := hr (by omega)
    exact ⟨g, 0, e, by rw [Nat.zero_add]; exact (hr.fr f0 (by simp)).cell j hj⟩) (by simp; omega) f0.size
  rw [List.nil_append] at hO1
  exact ⟨v1, w1, e1, hO1, own_frJ hO0 g1 f0 (Nat.le_refl _)⟩
section
variable {w W W' : World} {p : Nat} {ad : Option Addr} {cap : Nat} {R A B : List Nat} {b x : Nat}
theorem xinsSt (h : IsG w p ad cap R b) (hl : R.length ≤ 1048576) (hx : x ∈ R) (hn : R.Nodup) : Calls Tryz.prog 63 #[.pointer (some ⟨p, 0, none⟩), .int .i64 x] w fun e w' => e = .returned (.int .i64 8) ∧ Fr [] w w' := by
  have HF := Lib.hid (xfind h hl x)
  have b1 : decide ((0 : Int) ≤ fnd R x) = true := by
    unfold fnd
    rw [if_pos hx]
    simp
  generalize fnd R x = i at *
  clear h hl hx hn
  go_enter Tryz.func63, Tryz.ntmps63
  go_wp2_with fail
  with_reducible refine HF.out.mono ?_
  rintro e w1 ⟨rfl, f1⟩
  go_wp2_with fail
  go_ret
  exact ⟨rfl, f1⟩
set_option maxRecDepth 100000 in
set_option maxHeartbeats 4000000 in
theorem xins (h : IsG w p ad cap R b) (hl : R.length ≤ 1048500) (hx : x ∉ R) : Calls Tryz.prog 63 #[.pointer (some ⟨p, 0, none⟩), .int .i64 x] w fun e w' => e = .returned (.int .i64 0) ∧ IsGx w' p (R ++ [x]) (insB R b x) ∧ Fr [p] w w' := by
  have HF := Lib.hid (xfind h (by omega) x)
  rw [fnd_no hx] at HF
  obtain ⟨nR, hnR⟩ : ∃ n, R.length = n := ⟨_, rfl⟩
  by_cases h0 : R = []
  · have EB := Lib.hid (show insB R b x = x from if_pos h0)
    have hn0 : nR = 0 := by rw [← hnR, h0]; rfl
    go_enter Tryz.func63, Tryz.ntmps63
    go_wp2_with fail
    with_reducible refine HF.out.mono ?_
    rintro e w3 ⟨rfl, f3⟩
    have hB3 := (h.fr0 f3).st
    rw [hnR] at hB3
    have hr3 := (h.fr0 f3).row
    have d0 := hB3.cell 0
    have d1 := hB3.cell 1
    have z1 := hB3.frozen 1
    simp only [List.getElem?_toArray, List.getElem?_cons_zero, List.getElem?_cons_succ] at d0 d1
    have b1 : ((nR : Int) == 0) = true := by rw [hn0]; rfl
    have b1' : (nR == 0) = true := by rw [hn0]; rfl
    have F3 := Lib.hid f3
    clear f3 HF
    go_upto_region 5 with fail
    have hBV : Blk (w3.setCell ⟨p, 1, none⟩ (.int .i64 x)) p 92 #[.slice ad nR cap, .int .i64 x] := by simpa using hB3.set 1 (.int .i64 x)
    have fV : Fr [p] w3 (w3.setCell ⟨p, 1, none⟩ (.int .i64 x)) := (Fr.refl [p] w3).setCell (p := ⟨p, 1, none⟩) (.inl (by simp)) (.int .i64 x)
    have F5 := Lib.hid ((F3.out.nil (S := [p])).trans fV)
    have hrV := hr3.fr fV (by simp)
    generalize w3.setCell ⟨p, 1, none⟩ (.int .i64 x) = V at *
    clear hB3 hr3 d0 d1 z1 b1 b1' F3 hn0 h0 fV h
    obtain ⟨v1, w1, E1, O1, fc⟩ := app_row hrV (by omega)
    rw [hnR] at E1
    obtain ⟨ad1, cap1, e1, hrow1⟩ := own_row O1
    rw [hnR] at e1
    subst e1
    have HE1 := Lib.hid E1
    have d0 := hBV.cell 0
    have dA := (hBV.alloc (.cells #[] 3)).cell 0
    simp only [List.getElem?_toArray, List.getElem?_cons_zero] at d0 dA
    have hs : V.heap.size ≤ w1.heap.size := fc.size
    have hpV := hBV.lt
    have ISG := Lib.hid (fun (W : World) (v : Value) (hb : Blk W p 92 #[.slice ad nR cap, .int .i64 x]) (hv : Rw W V.heap.size v (R ++ [x])) => isg_store hb hv (by omega))
    have HBV := Lib.hid hBV
    clear E1 hrow1 hBV hrV
    go_wp2_with (first | (at_builtin; refine wpList_runI rfl _ _ 42 rfl rfl _ _ _ _ rfl rfl HE1.out ?_) | (at_builtin; refine wpList_append2 rfl _ _ rfl rfl V.heap.size _ R rfl x w1 rfl O1 rfl (by omega) hs ?_; intro g1 q1 W1 hO1 hF1 hob1; have hm1 : ∀ g ∈ ownS (.slice ad1 nR cap1), V.heap.size ≤ g := fun g hg => (O1.lt g (ownS_mem hg)).1; have FW := Lib.hid (F5.out.trans ((fc.nil (S := [p])).step hF1 (fun g hg => .inr (hm1 g hg)))); have hB1 := (HBV.out.fr fc (by simp)).fr hF1 (fun hm => by have := hm1 _ hm; omega); have c0 := hB1.cell 0; have hz := hB1.frozen 0; have IS := Lib.hid (ISG.out _ _ hB1 hO1); have HN2 := Lib.hid hnR; simp only [List.getElem?_toArray, List.getElem?_cons_zero] at c0; clear hO1 hF1 hob1) | fail)
    go_ret
    exact ⟨rfl, by rw [EB.out]; have h1 := IS.out; rw [HN2.out] at h1; exact h1, FW.out.setCell (p := ⟨p, 0, none⟩) (.inl (by simp)) _⟩
  · have EB := Lib.hid (show insB R b x = b from if_neg h0)
    have hn0 : nR ≠ 0 := fun e => h0 (List.length_eq_zero_iff.1 (hnR.trans e))
    go_enter Tryz.func63, Tryz.ntmps63
    go_wp2_with fail
    with_reducible refine HF.out.mono ?_
    rintro e w3 ⟨rfl, f3⟩
    have hBV := (h.fr0 f3).st
    rw [hnR] at hBV
    have hrV := (h.fr0 f3).row
    have b1 : ((nR : Int) == 0) = false := by rw [beq_eq_false_iff_ne]; omega
    have b1' : (nR == 0) = false := by rw [beq_eq_false_iff_ne]; omega
    have F5 := Lib.hid (f3.nil (S := [p]))
    clear f3 HF hn0 h0 h
    obtain ⟨v1, w1, E1, O1, fc⟩ := app_row hrV (by omega)
    rw [hnR] at E1
    obtain ⟨ad1, cap1, e1, hrow1⟩ := own_row O1
    rw [hnR] at e1
    subst e1
    have HE1 := Lib.hid E1
    have d0 := hBV.cell 0
    have dA := (hBV.alloc (.cells #[] 3)).cell 0
    simp only [List.getElem?_toArray, List.getElem?_cons_zero] at d0 dA
    have hs : w3.heap.size ≤ w1.heap.size := fc.size
    have hpV := hBV.lt
    have ISG := Lib.hid (fun (W : World) (v : Value) (hb : Blk W p 92 #[.slice ad nR cap, .int .i64 b]) (hv : Rw W w3.heap.size v (R ++ [x])) => isg_store hb hv (by omega))
    have HBV := Lib.hid hBV
    clear E1 hrow1 hBV hrV
    go_wp2_with (first | (at_builtin; refine wpList_runI rfl _ _ 42 rfl rfl _ _ _ _ rfl rfl HE1.out ?_) | (at_builtin; refine wpList_append2 rfl _ _ rfl rfl w3.heap.size _ R rfl x w1 rfl O1 rfl (by omega) hs ?_; intro g1 q1 W1 hO1 hF1 hob1; have hm1 : ∀ g ∈ ownS (.slice ad1 nR cap1), w3.heap.size ≤ g := fun g hg => (O1.lt g (ownS_mem hg)).1; have FW := Lib.hid (F5.out.trans ((fc.nil (S := [p])).step hF1 (fun g hg => .inr (hm1 g hg)))); have hB1 := (HBV.out.fr fc (by simp)).fr hF1 (fun hm => by have := hm1 _ hm; omega); have c0 := hB1.cell 0; have hz := hB1.frozen 0; have IS := Lib.hid (ISG.out _ _ hB1 hO1); have HN2 := Lib.hid hnR; simp only [List.getElem?_toArray, List.getElem?_cons_zero] at c0; clear hO1 hF1 hob1) | fail)
    go_ret
    exact ⟨rfl, by rw [EB.out]; have h1 := IS.out; rw [HN2.out] at h1; exact h1, FW.out.setCell (p := ⟨p, 0, none⟩) (.inl (by simp)) _⟩
theorem xturn0 (h : IsG w p ad cap [] b) : Calls Tryz.prog 59 #[.pointer (some ⟨p, 0, none⟩)] w fun e w' => e = .returned (.int .i64 0) ∧ Fr [] w w' := by
  have HH := Lib.hid (xhand h)
  have HI := Lib.hid h
  go_enter Tryz.func59, Tryz.ntmps59
  go_wp2_with fail
  with_reducible refine HH.out.mono ?_
  rintro e w1 ⟨rfl, f1⟩
  have d0 := (HI.out.fr0 f1).st.cell 0
  simp only [List.getElem?_toArray, List.getElem?_cons_zero, List.length_nil] at d0
  have F1 := Lib.hid f1
  clear f1 HH h
  go_wp2_with fail
  go_ret
  exact ⟨rfl, F1.out⟩
set_option maxRecDepth 100000 in
set_option maxHeartbeats 4000000 in
theorem xturn1 {a : Nat} {T : List Nat} (h : IsG w p ad cap (a :: T) b) (hl : (a :: T).length ≤ 1048576) : Calls Tryz.prog 59 #[.pointer (some ⟨p, 0, none⟩)] w fun e w' => e = .returned (.int .i64 a) ∧ IsGx w' p (T ++ [a]) b ∧ Fr [p] w w' := by
  have HH := Lib.hid (show Calls Tryz.prog 66 #[.pointer (some ⟨p, 0, none⟩)] w fun e w' => e = .returned (.int .i64 a) ∧ Fr [] w w' from xhand h)
  obtain ⟨g, rfl, hg, hr⟩ := h.row (by simp)
  have hcap := hr.le
  rw [List.length_cons] at hcap hl
  have hB := h.st
  rw [List.length_cons] at hB
  clear h
  go_enter Tryz.func59, Tryz.ntmps59
  go_wp2_with fail
  with_reducible refine HH.out.mono ?_
  rintro e w3 ⟨rfl, f3⟩
  have hBV := hB.fr f3 (by simp)
  have hrV := hr.fr f3 (by simp)
  have F5 := Lib.hid (f3.nil (S := [p]))
  -- the tail of the row, taken anew
  have hO0 := ownJ0 w3
  have f0 : Fr [] w3 (w3.alloc (.cells #[] 3)) := (Fr.refl [] w3).alloc _
  obtain ⟨v1, w1, E1, O1, fg⟩ := run_appJ _ _ _ [] hO0 (if cap - 1 = 0 then some ⟨g, 0, none⟩ else some ⟨g, 1, none⟩) (cap - 1) T (fun j hj => by
    refine ⟨g, 1, by rw [if_neg (by omega)], ?_⟩
    have := (hrV.fr f0 (by simp)).cell (1 + j) (by rw [List.length_cons]; omega)
    rw [this]
    congr 3
    rw [List.getElem_cons, dif_neg (by omega)]
    congr 1
    omega) (by simp; omega) f0.size
  rw [List.nil_append] at O1
  have fc := own_frJ hO0 fg f0 (Nat.le_refl _)
  obtain ⟨ad1, cap1, e1, hrow1⟩ := own_row O1
  obtain ⟨nT, hnT⟩ : ∃ n, T.length = n := ⟨_, rfl⟩
  rw [hnT] at E1 e1 hBV hcap hl
  subst e1
  generalize hadx : (if cap - 1 = 0 then (some ⟨g, 0, none⟩ : Option Addr) else some ⟨g, 1, none⟩) = adx at *
  have hady : (if cap = 1 then (some ⟨g, 0, none⟩ : Option Addr) else some ⟨g, 1, none⟩) = adx := by
    rw [← hadx]
    by_cases e : cap = 1
    · rw [if_pos e, if_pos (by omega)]
    · rw [if_neg e, if_neg (by omega)]
  have HE1 := Lib.hid E1
  have d0 := hBV.cell 0
  have dA := (hBV.alloc (.cells #[] 3)).cell 0
  simp only [List.getElem?_toArray, List.getElem?_cons_zero] at d0 dA
  have hs : w3.heap.size ≤ w1.heap.size := fc.size
  have hpV := hBV.lt
  have ISG := Lib.hid (fun (W : World) (v : Value) (hb : Blk W p 92 #[.slice (some ⟨g, 0, none⟩) (nT + 1) cap, .int .i64 b]) (hv : Rw W w3.heap.size v (T ++ [a])) => isg_store hb hv (by omega))
  have HBV := Lib.hid hBV
  have b1 : decide ((0 : Int) < ((nT + 1 : Nat) : Int)) = true := by simp only [decide_eq_true_eq]; omega
  have b2 : (1 : Int) ≤ ((nT + 1 : Nat) : Int) := by omega
  have b3 : ((nT + 1 : Nat) : Int) ≤ cap := by omega
  have b4 : 1 ≤ cap := by omega
  have b5 : (1 : Int) ≤ cap := by omega
  have HL := Lib.hid (show T.length ≤ 1048576 from by omega)
  clear E1 hrow1 hBV hrV f3 hr hB HH hO0 f0 fg hadx
  go_wp2_with (first | (at_builtin; refine wpList_runI rfl _ _ 42 rfl rfl _ _ _ _ rfl (by simp [Act.eval, Act.put, hady]) HE1.out ?_) | (at_builtin; refine wpList_append2 rfl _ _ rfl rfl w3.heap.size _ T rfl a w1 rfl O1 rfl HL.out hs ?_; intro g1 q1 W1 hO1 hF1 hob1; have hm1 : ∀ g ∈ ownS (.slice ad1 nT cap1), w3.heap.size ≤ g := fun g hg => (O1.lt g (ownS_mem hg)).1; have FW := Lib.hid (F5.out.trans ((fc.nil (S := [p])).step hF1 (fun g hg => .inr (hm1 g hg)))); have hB1 := (HBV.out.fr fc (by simp)).fr hF1 (fun hm => by have := hm1 _ hm; omega); have c0 := hB1.cell 0; have hz := hB1.frozen 0; have IS := Lib.hid (ISG.out _ _ hB1 hO1); have HN2 := Lib.hid hnT; simp only [List.getElem?_toArray, List.getElem?_cons_zero] at c0; clear hO1 hF1 hob1) | fail)
  go_ret
  exact ⟨rfl, by have h1 := IS.out; rw [HN2.out] at h1; exact h1, FW.out.setCell (p := ⟨p, 0, none⟩) (.inl (by simp)) _⟩
theorem xbrush0 (h : IsG w p ad cap [] b) : Calls Tryz.prog 60 #[.pointer (some ⟨p, 0, none⟩)] w fun e w' => e = .returned (.int .i64 b) ∧ Fr [] w w' := by
  have d0 := h.st.cell 0
  have d1 := h.st.cell 1
  simp only [List.getElem?_toArray, List.getElem?_cons_zero, List.getElem?_cons_succ, List.length_nil] at d0 d1
  clear h
  go_enter Tryz.func60, Tryz.ntmps60
  go_wp2_with fail
  go_ret
  exact ⟨rfl, Fr.refl _ _⟩
theorem xbrush1 (h : IsG w p ad cap (A ++ b :: B) b) (hn : b ∉ A) (hl : (A ++ b :: B).length ≤ 1048576) : Calls Tryz.prog 60 #[.pointer (some ⟨p, 0, none⟩)] w fun e w' => e = .returned (.int .i64 b) ∧ IsGx w' p (A ++ b :: B) ((B ++ A).headD b) ∧ Fr [p] w w' := by
  have HX := Lib.hid (fun V (hV : IsG V p ad cap (A ++ b :: B) b) => xnext hV hn hl)
  have d0 := h.st.cell 0
  have d1 := h.st.cell 1
  simp only [List.getElem?_toArray, List.getElem?_cons_zero, List.getElem?_cons_succ] at d0 d1
  have hln : (A ++ b :: B).length = (B ++ A).length + 1 := by rw [List.length_append, List.length_append, List.length_cons]; omega
  have HI := Lib.hid h
  obtain ⟨n, hN⟩ : ∃ n, (A ++ b :: B).length = n := ⟨_, rfl⟩
  cases hC : B ++ A with
  | nil =>
    have b1 : decide ((1 : Int) < n) = false := by rw [hC] at hln; simp only [decide_eq_false_iff_not]; rw [← hN, hln]; simp
    have b1' : decide (1 < n) = false := by rw [hC] at hln; simp only [decide_eq_false_iff_not]; rw [← hN, hln]; simp
    rw [hN] at d0
    clear h hln hN HX
    go_enter Tryz.func60, Tryz.ntmps60
    go_wp2_with fail
    go_ret
    exact ⟨rfl, ⟨_, _, HI.out⟩, Fr.refl _ _⟩
  | cons y C =>
    have b1 : decide ((1 : Int) < n) = true := by rw [hC] at hln; simp only [decide_eq_true_eq]; rw [← hN, hln]; simp; omega
    have b1' : decide (1 < n) = true := by rw [hC] at hln; simp only [decide_eq_true_eq]; rw [← hN, hln]; simp
    have HX := Lib.hid (show Calls Tryz.prog 155 #[.pointer (some ⟨p, 0, none⟩), .int .i64 b] w fun e w' => e = .returned (.int .i64 y) ∧ Fr [] w w' from by
      have := HX.out w HI.out
      rw [hC] at this
      exact this)
    have HN := Lib.hid hN
    rw [hN] at d0
    have HST := Lib.hid (fun (V : World) (hV : IsG V p ad cap (A ++ b :: B) b) => (show IsGx (V.setCell ⟨p, 1, none⟩ (.int .i64 y)) p (A ++ b :: B) y from ⟨ad, cap, by simpa using hV.st.set 1 (.int .i64 y), hV.row.fr ((Fr.refl [p] V).setCell (p := ⟨p, 1, none⟩) (.inl (by simp)) _) (by simp)⟩))
    clear h hln hN
    go_enter Tryz.func60, Tryz.ntmps60
    go_wp2_with fail
    with_reducible refine HX.out.mono ?_
    rintro e w1 ⟨rfl, f1⟩
    have hI1 := HI.out.fr0 f1
    have c1 := hI1.st.cell 1
    have z1 := hI1.st.frozen 1
    simp only [List.getElem?_toArray, List.getElem?_cons_zero, List.getElem?_cons_succ] at c1
    have IS := Lib.hid (HST.out _ hI1)
    have F1 := Lib.hid f1
    clear f1 hI1 d0 d1
    go_wp2_with fail
    go_ret
    exact ⟨rfl, IS.out, (F1.out.nil (S := [p])).setCell (p := ⟨p, 1, none⟩) (.inl (by simp)) _⟩
end
end Go.Proofs.YtkapkbiccppldaaGreatDoor

/- The document's ring: Move. -/
namespace Go.Proofs.YtkapkbiccppldaaGreatDoor
set_option linter.unusedVariables false
set_option linter.unusedSimpArgs false
open Go.RowKit

section
variable {w W W' : World} {p : Nat} {ad : Option Addr} {cap : Nat} {R A B : List Nat} {b x y : Nat}
theorem RowI.setI {g i v : Nat} (h : RowI W g cap R) (hi : i < R.length) : RowI (W.setCell ⟨g, i, none⟩ (.int .i64 v)) g cap (R.set i v) := by
  obtain ⟨cur, hb, hs, hl, ht⟩ := h
  refine ⟨_, hb.set i (.int .i64 v), by simpa using hs, by simpa using hl, ?_⟩
  rw [List.length_set, Array.toList_setIfInBounds, List.take_set, ht]
  unfold intC
  rw [List.map_set]
theorem set_mid (A B : List Nat) (x y : Nat) : (A ++ x :: B).set A.length y = A ++ y :: B := by simp
theorem isg_store2 {ad' : Option Addr} {cap' : Nat} {l : List Nat} (hst : Blk W p 92 #[.slice ad x cap, .int .i64 b]) (hr : RowV W (p + 1) ad' cap' l) : IsG (W.setCell ⟨p, 0, none⟩ (.slice ad' l.length cap')) p ad' cap' l b := by
  have hf : Fr [p] W (W.setCell ⟨p, 0, none⟩ (.slice ad' l.length cap')) := (Fr.refl [p] W).setCell (p := ⟨p, 0, none⟩) (.inl (by simp)) _
  refine ⟨by simpa using hst.set 0 (.slice ad' l.length cap'), fun h0 => ?_⟩
  obtain ⟨g, e, hg, hr⟩ := hr h0
  exact ⟨g, e, hg, hr.fr hf (by simp; omega)⟩
set_option maxRecDepth 100000 in
set_option maxHeartbeats 4000000 in
theorem xmove (h : IsG w p ad cap (A ++ x :: B) b) (hn : x ∉ A) (hl : (A ++ x :: B).length ≤ 1048576) : Calls Tryz.prog 62 #[.pointer (some ⟨p, 0, none⟩), .int .i64 x, .int .i64 y] w fun e w' => e = .returned (.tuple #[]) ∧ IsGx w' p (A ++ y :: B) (if b = x then y else b) ∧ Fr [p] w w' := by
  have HF := Lib.hid (xfind h hl x)
  rw [fnd_at hn] at HF
  obtain ⟨n, hN⟩ : ∃ n, (A ++ x :: B).length = n := ⟨_, rfl⟩
  have hkn : A.length < n := by rw [← hN, List.length_append, List.length_cons]; omega
  have hN2 : (A ++ y :: B).length = n := by rw [← hN, List.length_append, List.length_append]; rfl
  have HI := Lib.hid h
  go_enter Tryz.func62, Tryz.ntmps62
  go_wp2_with fail
  with_reducible refine HF.out.mono ?_
  rintro e w3 ⟨rfl, f3⟩
  have hI3 := h.fr0 f3
  have hBV := hI3.st
  rw [hN] at hBV
  have hrV := hI3.row
  have F3 := Lib.hid f3
  obtain ⟨v1, w1, E1, O1, fc⟩ := app_row hrV hl
  obtain ⟨ad1, cap1, e1, hrow1⟩ := own_row O1
  rw [hN] at E1 e1
  subst e1
  obtain ⟨g, rfl, hg, hr1⟩ := hrow1 (by omega)
  have hpV := hBV.lt
  have hR2 := hr1.setI (i := A.length) (v := y) (by omega)
  rw [set_mid] at hR2
  have FS : Fr [g] w1 (w1.setCell ⟨g, A.length, none⟩ (.int .i64 y)) := (Fr.refl [g] w1).setCell (p := ⟨g, A.length, none⟩) (.inl (by simp)) _
  have hB2 := (hBV.fr fc (by simp)).fr FS (by simp; omega)
  have ck := hr1.cell A.length (by omega)
  have zk : w1.frozen? ⟨g, A.length, none⟩ = false := by
    obtain ⟨cur, hb, _⟩ := hr1
    exact hb.frozen _
  have IS := Lib.hid (isg_store2 (l := A ++ y :: B) (ad' := some ⟨g, 0, none⟩) (cap' := cap1) hB2 (fun _ => ⟨g, rfl, by omega, hR2⟩))
  rw [hN2] at IS
  have FW := Lib.hid (((F3.out.nil (S := [p])).trans (fc.nil)).step FS (by simp; right; have := F3.out.size; omega))
  have d0 := hBV.cell 0
  have dA := (hBV.alloc (.cells #[] 3)).cell 0
  have c2 := hB2.cell 0
  have z2 := hB2.frozen 0
  simp only [List.getElem?_toArray, List.getElem?_cons_zero] at d0 dA c2
  have HE1 := Lib.hid E1
  generalize (A ++ x :: B)[A.length] = ov at *
  generalize A.length = k at *
  have k0 : (0 : Int) ≤ k := by omega
  have k1 : (k : Int) < n := by omega
  have HSB := Lib.hid (fun (V : World) (R : List Nat) (hV : IsG V p (some ⟨g, 0, none⟩) cap1 R b) => (show IsGx (V.setCell ⟨p, 1, none⟩ (.int .i64 y)) p R y from ⟨_, cap1, by simpa using hV.st.set 1 (.int .i64 y), hV.row.fr ((Fr.refl [p] V).setCell (p := ⟨p, 1, none⟩) (.inl (by simp)) _) (by simp)⟩))
  clear E1 hB2 hBV hrV hI3 fc FS hR2 hr1 hrow1 O1 HF h f3 hN2 hN hl hn
  by_cases hbx : b = x
  · subst hbx
    have b1 : ((b : Int) == b) = true := by simp
    have z3 := IS.out.st.frozen 1
    have c3 := IS.out.st.cell 1
    simp only [List.getElem?_toArray, List.getElem?_cons_zero, List.getElem?_cons_succ] at c3
    have EB := Lib.hid (HSB.out _ _ IS.out)
    go_wp2_with (first | (at_builtin; refine wpList_runI rfl _ _ 42 rfl rfl _ _ _ _ rfl rfl HE1.out ?_) | fail)
    go_end0
    exact ⟨rfl, by first | exact EB.out | (rw [if_pos rfl]; exact EB.out), (FW.out.setCell (p := ⟨p, 0, none⟩) (.inl (by simp)) _).setCell (p := ⟨p, 1, none⟩) (.inl (by simp)) _⟩
  · have b1 : ((b : Int) == x) = false := by rw [beq_eq_false_iff_ne]; omega
    have c3 := IS.out.st.cell 1
    simp only [List.getElem?_toArray, List.getElem?_cons_zero, List.getElem?_cons_succ] at c3
    have EB := Lib.hid (show (if b = x then y else b) = b from if_neg hbx)
    go_wp2_with (first | (at_builtin; refine wpList_runI rfl _ _ 42 rfl rfl _ _ _ _ rfl rfl HE1.out ?_) | fail)
    go_end0
    exact ⟨rfl, by first | exact ⟨_, _, IS.out⟩ | (rw [EB.out]; exact ⟨_, _, IS.out⟩), FW.out.setCell (p := ⟨p, 0, none⟩) (.inl (by simp)) _⟩
end
end Go.Proofs.YtkapkbiccppldaaGreatDoor
