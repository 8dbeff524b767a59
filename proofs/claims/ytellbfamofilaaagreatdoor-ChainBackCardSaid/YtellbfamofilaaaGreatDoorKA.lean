/- Several texts in one. -/
import Derived.Test.YtellbfamofilaaaGreatDoorGG
import Derived.Test.YtellbfamofilaaaGreatDoorGI
import Derived.Test.YtellbfamofilaaaGreatDoorKT
/- Package ring: its root's fields, its neighbours: the small functions. -/
namespace Go.Proofs.YtellbfamofilaaaGreatDoor
set_option linter.unusedVariables false
set_option linter.unusedSimpArgs false
open Go.RowKit

section
variable {w : World} {q : MH} {t : TM}
/-- A field of a head is stored. -/
theorem whZ_5 (tag : Nat) (ht : tag ≤ 2) : whZ tag 5 = wh tag 5 := by unfold whZ; rw [if_pos (by omega), Int.toNat_natCast]; rfl
theorem whZ_6 (tag : Nat) (ht : tag ≤ 2) : whZ tag 6 = wh tag 6 := by unfold whZ; rw [if_pos (by omega), Int.toNat_natCast]; rfl
theorem wh1 : wh 1 5 = (8, 4) ∧ wh 1 6 = (12, 4) := by decide
def TM.nxt (t : TM) (x v : Nat) : TM := t.setB (x + 8) 4 v
def TM.prv (t : TM) (x v : Nat) : TM := t.setB (x + 12) 4 v
theorem hst_nxt (t : TM) (x v : Nat) (hv : v < 4294967296) : t.hst x 1 5 v = t.nxt x v := by
  unfold TM.hst hstB
  rw [whZ_5 1 (by decide), wh1.1, if_pos (by simpa using hv)]
  rfl
theorem hst_prv (t : TM) (x v : Nat) (hv : v < 4294967296) : t.hst x 1 6 v = t.prv x v := by
  unfold TM.hst hstB
  rw [whZ_6 1 (by decide), wh1.2, if_pos (by simpa using hv)]
  rfl
theorem HeadTo.nxt {x : Nat} {N : Nat → Nat} (hh : HeadTo t x 1 5 N 12) (hok : t.Ok) (v : Nat) (hv : v < 4294967296) : HeadTo (t.nxt x v) x 1 5 (up N 5 v) 12 ∧ (t.nxt x v).Ok := by
  have := hh.hst hok 5 v
  rw [hst_nxt t x v hv] at this
  have hb : hstB 1 5 v = true := by unfold hstB; rw [whZ_5 1 (by decide), wh1.1]; simpa using hv
  rw [hb, if_pos rfl] at this
  exact this
theorem HeadTo.prv {x : Nat} {N : Nat → Nat} (hh : HeadTo t x 1 5 N 12) (hok : t.Ok) (v : Nat) (hv : v < 4294967296) : HeadTo (t.prv x v) x 1 5 (up N 6 v) 12 ∧ (t.prv x v).Ok := by
  have := hh.hst hok 6 v
  rw [hst_prv t x v hv] at this
  have hb : hstB 1 6 v = true := by unfold hstB; rw [whZ_6 1 (by decide), wh1.2]; simpa using hv
  rw [hb, if_pos rfl] at this
  exact this
end
end Go.Proofs.YtellbfamofilaaaGreatDoor

/- Package ring: is a place that of an entry? -/
namespace Go.Proofs.YtellbfamofilaaaGreatDoor
set_option linter.unusedVariables false
set_option linter.unusedSimpArgs false
open Go.RowKit

section
variable {w : World} {q : MH} {t : TM}
theorem num_nxt (X : HB) (v : Nat) : ({X with next := v} : HB).num = up X.num 5 v := by
  funext f
  unfold up
  by_cases h : f = 5
  · subst h; rfl
  · rw [if_neg h]
    show ({X with next := v} : HB).nums[f]?.getD 0 = X.nums[f]?.getD 0
    unfold HB.nums
    rcases f with _ | _ | _ | _ | _ | _ | f
    all_goals first | rfl | (exact absurd rfl h)
theorem num_prv (X : HB) (v : Nat) : ({X with prev := v} : HB).num = up X.num 6 v := by
  funext f
  unfold up
  by_cases h : f = 6
  · subst h; rfl
  · rw [if_neg h]
    show ({X with prev := v} : HB).nums[f]?.getD 0 = X.nums[f]?.getD 0
    unfold HB.nums
    rcases f with _ | _ | _ | _ | _ | _ | _ | f
    all_goals first | rfl | (exact absurd rfl h)
/-- An entry's head, whole. -/
structure EntH (t : TM) (x : Nat) (X : HB) : Prop where
  h : HeadTo t x 1 5 X.num 12
  ok : X.Ok
  r : X.right = true
  tag : X.tag = 1
theorem EntH.n0 {x : Nat} {X : HB} (h : EntH t x X) : X.num 0 = 1 := by
  show X.nums[0]?.getD 0 = 1
  unfold HB.nums
  rw [h.tag]
  rfl
end
end Go.Proofs.YtellbfamofilaaaGreatDoor

/- Package ring: both pointers, a ring that is begun. -/
namespace Go.Proofs.YtellbfamofilaaaGreatDoor
set_option linter.unusedVariables false
set_option linter.unusedSimpArgs false
open Go.RowKit

section
variable {w : World} {q : MH} {t : TM}
end
end Go.Proofs.YtellbfamofilaaaGreatDoor

/- Package ring: renamed. -/
namespace Go.Proofs.YtellbfamofilaaaGreatDoor
set_option linter.unusedVariables false
set_option linter.unusedSimpArgs false
open Go.RowKit

section
variable {w : World} {q : MH} {t : TM}
/-- What names one names another one. -/
def TM.rnm (t : TM) (fr to : Nat) : TM := if t.rt 14 = fr then (if t.rt 13 = fr then t.setRt 13 to else t).setRt 14 to else (if t.rt 13 = fr then t.setRt 13 to else t)
end
end Go.Proofs.YtellbfamofilaaaGreatDoor

/- Entries' heads, all of them; links, paths, rings in plain words. -/
namespace Go.Proofs.YtellbfamofilaaaGreatDoor
set_option linter.unusedVariables false
set_option linter.unusedSimpArgs false
open Go.RowKit

section
variable {w : World} {q : MH} {t u : TM}
theorem HeadTo.out {x tag kind : Nat} {N : Nat → Nat} {m y n : Nat} (h : HeadTo t x tag kind N m) (ha : u.a = t.a) (hs : u.s = t.s) (o : Out t u y n) (hd : x + 32 ≤ y ∨ y + n ≤ x) (hm : m ≤ 12) : HeadTo u x tag kind N m := by
  have z := sz_le tag h.tg
  have al := h.al
  have hb := h.base
  refine ⟨h.tg, by rw [ha, hs]; exact h.base, h.al, by rw [ha, hs]; exact h.fit, h.k0, fun g g1 g2 => ?_, fun f hf h0 j hj => ?_, h.lt⟩
  · rw [o.kd_ g (by omega) (by omega)]; exact h.kinds g g1 g2
  · have wk := wh_ok tag f h.tg (by omega) h0
    rw [o.by_ _ (by omega) (by omega)]
    exact h.byte f hf h0 j hj
theorem right_nxt (X : HB) (ht : X.tag = 1) (v : Nat) : ({X with next := v} : HB).right = X.right := by
  unfold HB.right
  have hw : ((whZ X.tag 5).2 == 0) = false := by rw [ht]; rfl
  have hw' : ((whZ X.tag (5 : Nat)).2 == 0) = false := hw
  have : ({X with next := v} : HB).lackTo 12 = X.lackTo 12 := by
    simp only [HB.lackTo]
    unfold HB.lackAt
    rw [num_nxt]
    simp only [up, hw, hw', Bool.and_false]
    simp [hw, hw']
  rw [this]
theorem right_prv (X : HB) (ht : X.tag = 1) (v : Nat) : ({X with prev := v} : HB).right = X.right := by
  unfold HB.right
  have hw : ((whZ X.tag 6).2 == 0) = false := by rw [ht]; rfl
  have hw' : ((whZ X.tag (6 : Nat)).2 == 0) = false := hw
  have : ({X with prev := v} : HB).lackTo 12 = X.lackTo 12 := by
    simp only [HB.lackTo]
    unfold HB.lackAt
    rw [num_prv]
    simp only [up, hw, hw', Bool.and_false]
    simp [hw, hw']
  rw [this]
theorem EntH.nxt {x : Nat} {X : HB} (h : EntH t x X) (hok : t.Ok) (v : Nat) (hv : v < 4294967296) : EntH (t.nxt x v) x {X with next := v} :=
  ⟨by rw [num_nxt]; exact (h.h.nxt hok v hv).1, ⟨h.ok.tag, h.ok.cls, h.ok.label, h.ok.name, hv, h.ok.prev, h.ok.refs, h.ok.expiry, h.ok.typ, h.ok.size, h.ok.hash⟩, by rw [right_nxt X h.tag]; exact h.r, h.tag⟩
theorem EntH.prv {x : Nat} {X : HB} (h : EntH t x X) (hok : t.Ok) (v : Nat) (hv : v < 4294967296) : EntH (t.prv x v) x {X with prev := v} :=
  ⟨by rw [num_prv]; exact (h.h.prv hok v hv).1, ⟨h.ok.tag, h.ok.cls, h.ok.label, h.ok.name, h.ok.next, hv, h.ok.refs, h.ok.expiry, h.ok.typ, h.ok.size, h.ok.hash⟩, by rw [right_prv X h.tag]; exact h.r, h.tag⟩
theorem EntH.out {x : Nat} {X : HB} {y n : Nat} (h : EntH t x X) (ha : u.a = t.a) (hs : u.s = t.s) (o : Out t u y n) (hd : x + 32 ≤ y ∨ y + n ≤ x) : EntH u x X :=
  ⟨h.h.out ha hs o hd (Nat.le_refl _), h.ok, h.r, h.tag⟩
theorem EntH.lt {x : Nat} {X : HB} (h : EntH t x X) (hok : t.Ok) : x < 1048576 ∧ 240 ≤ x := by
  have hc := cfg_sizes hok.cfg
  have hb := h.h.base
  have hf := h.h.fit
  have z := sz_le 1 (by decide)
  have := sla_ok hok 0 (by have := hok.cfg.a1; omega)
  omega
/-- The heads of entries, all of them. -/
structure Ents (t : TM) (L : Nat → Prop) (E : Nat → HB) : Prop where
  ok : t.Ok
  e : ∀ x, L x → EntH t x (E x)
  ap : ∀ x y, L x → L y → x ≠ y → x + 32 ≤ y ∨ y + 32 ≤ x
variable {L : Nat → Prop} {E : Nat → HB}
def nxE (E : Nat → HB) (x v : Nat) : Nat → HB := up E x {E x with next := v}
def pvE (E : Nat → HB) (x v : Nat) : Nat → HB := up E x {E x with prev := v}
theorem Ents.nxt (h : Ents t L E) {x : Nat} (hx : L x) (v : Nat) (hv : v < 4294967296) : Ents (t.nxt x v) L (nxE E x v) := by
  have hX := h.e x hx
  have hb := hX.h.base
  refine ⟨(hX.h.nxt h.ok v hv).2, fun y hy => ?_, h.ap⟩
  by_cases hyx : y = x
  · subst hyx; unfold nxE; rw [up_same]; exact hX.nxt h.ok v hv
  · unfold nxE; rw [up_ne _ _ hyx]
    have := h.ap y x hy hx hyx
    exact (h.e y hy).out rfl rfl (setB_out h.ok (x + 8) 4 v (by omega)) (by omega)
theorem Ents.prv (h : Ents t L E) {x : Nat} (hx : L x) (v : Nat) (hv : v < 4294967296) : Ents (t.prv x v) L (pvE E x v) := by
  have hX := h.e x hx
  have hb := hX.h.base
  refine ⟨(hX.h.prv h.ok v hv).2, fun y hy => ?_, h.ap⟩
  by_cases hyx : y = x
  · subst hyx; unfold pvE; rw [up_same]; exact hX.prv h.ok v hv
  · unfold pvE; rw [up_ne _ _ hyx]
    have := h.ap y x hy hx hyx
    exact (h.e y hy).out rfl rfl (setB_out h.ok (x + 12) 4 v (by omega)) (by omega)
end
end Go.Proofs.YtellbfamofilaaaGreatDoor

/- Links, paths, rings in plain words. -/
namespace Go.Proofs.YtellbfamofilaaaGreatDoor
set_option linter.unusedVariables false
set_option linter.unusedSimpArgs false
open Go.RowKit

section
variable {E E' : Nat → HB}
/-- Two that are neighbours. -/
def Lnk (E : Nat → HB) (x y : Nat) : Prop := (E x).next = y ∧ (E y).prev = x
def Seg (E : Nat → HB) : Nat → List Nat → Nat → Prop
  | a, [], z => Lnk E a z
  | a, y :: l, z => Lnk E a y ∧ Seg E y l z
def Cyc (E : Nat → HB) : List Nat → Prop
  | [] => True
  | h :: l => Seg E h l h
theorem seg_app (E : Nat → HB) : ∀ (A : List Nat) (a x : Nat) (B : List Nat) (z : Nat), Seg E a (A ++ x :: B) z ↔ Seg E a A x ∧ Seg E x B z := by
  intro A
  induction A with
  | nil => intro a x B z; exact Iff.rfl
  | cons y A ih => intro a x B z; show Lnk E a y ∧ Seg E y (A ++ x :: B) z ↔ (Lnk E a y ∧ Seg E y A x) ∧ Seg E x B z; rw [ih, and_assoc]
theorem cyc_rot1 (E : Nat → HB) (h : Nat) (l : List Nat) : Cyc E (h :: l) ↔ Cyc E (l ++ [h]) := by
  cases l with
  | nil => exact Iff.rfl
  | cons y l => show Lnk E h y ∧ Seg E y l h ↔ Seg E y (l ++ [h]) y; rw [seg_app]; exact and_comm
theorem cyc_rot (E : Nat → HB) : ∀ (A B : List Nat), Cyc E (A ++ B) ↔ Cyc E (B ++ A) := by
  intro A
  induction A with
  | nil => intro B; rw [List.append_nil]; exact Iff.rfl
  | cons x A ih => intro B; rw [List.cons_append, cyc_rot1, List.append_assoc, ih, List.append_assoc]; exact Iff.rfl
/-- Links that hang on what didn't change. -/
theorem Seg.same : ∀ {l : List Nat} {a z : Nat}, Seg E a l z → (∀ x, x = a ∨ x ∈ l → (E' x).next = (E x).next) → (∀ x, x ∈ l ∨ x = z → (E' x).prev = (E x).prev) → Seg E' a l z := by
  intro l
  induction l with
  | nil => intro a z h hn hp; exact ⟨by rw [hn a (.inl rfl)]; exact h.1, by rw [hp z (.inr rfl)]; exact h.2⟩
  | cons y l ih =>
    intro a z h hn hp
    refine ⟨⟨by rw [hn a (.inl rfl)]; exact h.1.1, by rw [hp y (.inl (List.mem_cons_self ..))]; exact h.1.2⟩, ih h.2 (fun x hx => hn x (.inr ?_)) (fun x hx => hp x ?_)⟩
    · rcases hx with rfl | hx
      · exact List.mem_cons_self ..
      · exact List.mem_cons_of_mem _ hx
    · rcases hx with hx | rfl
      · exact .inl (List.mem_cons_of_mem _ hx)
      · exact .inr rfl
theorem Cyc.same {R : List Nat} (h : Cyc E R) (he : ∀ x ∈ R, (E' x).next = (E x).next ∧ (E' x).prev = (E x).prev) : Cyc E' R := by
  cases R with
  | nil => trivial
  | cons a l =>
    refine Seg.same h (fun x hx => (he x ?_).1) (fun x hx => (he x ?_).2)
    · rcases hx with rfl | hx
      · exact List.mem_cons_self ..
      · exact List.mem_cons_of_mem _ hx
    · rcases hx with hx | rfl
      · exact List.mem_cons_of_mem _ hx
      · exact List.mem_cons_self ..
theorem Seg.nx : ∀ {l : List Nat} {a z : Nat}, Seg E a l z → (E a).next = l.headD z := by
  intro l a z h
  cases l with
  | nil => exact h.1
  | cons y l => exact h.1.1
theorem Seg.pv : ∀ {l : List Nat} {a z : Nat}, Seg E a l z → (E z).prev = (a :: l).getLast (List.cons_ne_nil _ _) := by
  intro l
  induction l with
  | nil => intro a z h; exact h.2
  | cons y l ih => intro a z h; rw [ih h.2, List.getLast_cons (List.cons_ne_nil _ _)]
/-- Two are joined. -/
def jnE (E : Nat → HB) (a b : Nat) : Nat → HB := pvE (nxE E a b) b a
theorem jn_next (E : Nat → HB) (a b x : Nat) : (jnE E a b x).next = if x = a then b else (E x).next := by
  unfold jnE pvE nxE up
  by_cases h1 : x = b
  · subst h1; rw [if_pos rfl]
    show (if x = a then ({E a with next := x} : HB) else E x).next = _
    by_cases h2 : x = a
    · rw [if_pos h2, if_pos h2]
    · rw [if_neg h2, if_neg h2]
  · rw [if_neg h1]
    by_cases h2 : x = a
    · rw [if_pos h2, if_pos h2]
    · rw [if_neg h2, if_neg h2]
theorem jn_prev (E : Nat → HB) (a b x : Nat) : (jnE E a b x).prev = if x = b then a else (E x).prev := by
  unfold jnE pvE nxE up
  by_cases h1 : x = b
  · rw [if_pos h1, if_pos h1]
  · rw [if_neg h1, if_neg h1]
    by_cases h2 : x = a
    · rw [if_pos h2, h2]
    · rw [if_neg h2]
/-- The last one's next is changed, and the prev of the one behind. -/
theorem seg_last (E : Nat → HB) : ∀ {l : List Nat} {a z : Nat}, Seg E a l z → (a :: l).Nodup → ∀ y, y ∉ l → Seg (jnE E ((a :: l).getLast (List.cons_ne_nil _ _)) y) a l y := by
  intro l
  induction l with
  | nil => intro a z h _ y _; exact ⟨by rw [jn_next]; exact if_pos rfl, by rw [jn_prev]; exact if_pos rfl⟩
  | cons b l ih =>
    intro a z h hn y hy
    have hn' := List.nodup_cons.1 hn
    have hab : a ≠ (b :: l).getLast (List.cons_ne_nil _ _) := fun e => hn'.1 (e ▸ List.getLast_mem _)
    have hby : b ≠ y := fun e => hy (e ▸ List.mem_cons_self ..)
    refine ⟨⟨?_, ?_⟩, ?_⟩
    · rw [List.getLast_cons (List.cons_ne_nil _ _), jn_next, if_neg hab]; exact h.1.1
    · rw [List.getLast_cons (List.cons_ne_nil _ _), jn_prev, if_neg hby]; exact h.1.2
    · rw [List.getLast_cons (List.cons_ne_nil _ _)]
      exact ih h.2 hn'.2 y (fun m => hy (List.mem_cons_of_mem _ m))
end
end Go.Proofs.YtellbfamofilaaaGreatDoor

/- The ring's state; what changes it, in plain words. -/
namespace Go.Proofs.YtellbfamofilaaaGreatDoor
set_option linter.unusedVariables false
set_option linter.unusedSimpArgs false
open Go.RowKit

section
variable {t u : TM} {L : Nat → Prop} {E E' : Nat → HB} {R : List Nat} {b : Nat}
theorem Ents.join (h : Ents t L E) {a c : Nat} (ha : L a) (hc : L c) : Ents ((t.nxt a c).prv c a) L (jnE E a c) := by
  have l1 := (h.e a ha).lt h.ok
  have l2 := (h.e c hc).lt h.ok
  exact (h.nxt ha c (by omega)).prv hc a (by omega)
theorem EntH.same {x : Nat} {X : HB} (h : EntH t x X) (ha : u.a = t.a) (hs : u.s = t.s) (o : Out t u x 0) : EntH u x X := by
  refine ⟨⟨h.h.tg, by rw [ha, hs]; exact h.h.base, h.h.al, by rw [ha, hs]; exact h.h.fit, h.h.k0, fun g g1 g2 => ?_, fun f hf h0 j hj => ?_, h.h.lt⟩, h.ok, h.r, h.tag⟩
  · have hb := h.h.base
    have al := h.h.al
    rw [o.kd_ g (by omega) (by omega)]; exact h.h.kinds g g1 g2
  · have hb := h.h.base
    rw [o.by_ _ (by omega) (by omega)]
    exact h.h.byte f hf h0 j hj
theorem Ents.setRt (h : Ents t L E) (f v : Nat) (hv : v < 256 ^ fldW f) : Ents (t.setRt f v) L E :=
  ⟨setRt_ok h.ok f v hv, fun x hx => (h.e x hx).same rfl rfl (setRt_out h.ok f v hv x 0), h.ap⟩
theorem nodup_lt : ∀ (N : Nat) (l : List Nat), l.Nodup → (∀ x ∈ l, x < N) → l.length ≤ N := by
  intro N
  induction N with
  | zero => intro l _ h; cases l with
    | nil => exact Nat.le_refl _
    | cons a l => exact absurd (h a (List.mem_cons_self ..)) (Nat.not_lt_zero _)
  | succ N ih =>
    intro l hn h
    have h1 := ih (l.erase N) (hn.erase N) (fun x hx => by
      have h2 := h x (List.mem_of_mem_erase hx)
      have h3 : x ≠ N := fun e => by subst e; exact hn.not_mem_erase hx
      omega)
    have := List.length_erase_le (a := N) (l := l)
    by_cases hm : N ∈ l
    · have := List.length_erase_of_mem hm
      omega
    · rw [List.erase_of_not_mem hm] at h1
      omega
/-- The ring: its entries from the hand on, and the broom's. -/
structure RgI (t : TM) (L : Nat → Prop) (E : Nat → HB) (R : List Nat) (b : Nat) : Prop where
  ents : Ents t L E
  sub : ∀ x ∈ R, L x
  nd : R.Nodup
  hand : t.rt 13 = R.headD 0
  broom : t.rt 14 = b
  cnt : t.rt 15 = R.length
  bin : R ≠ [] → b ∈ R
  bnil : R = [] → b = 0
  cyc : Cyc E R
  out : ∀ x, L x → x ∉ R → (E x).next = 0 ∧ (E x).prev = 0
theorem RgI.ne0 (h : RgI t L E R b) {x : Nat} (hx : L x) : x ≠ 0 := by
  have := (h.ents.e x hx).lt h.ents.ok
  omega
/-- Who is in a ring has a next one. -/
theorem cyc_nx {A B : List Nat} {x : Nat} (h : Cyc E (A ++ x :: B)) : (E x).next = (B ++ A).headD x ∧ (E x).prev = (x :: (B ++ A)).getLast (List.cons_ne_nil _ _) := by
  rw [cyc_rot] at h
  exact ⟨Seg.nx (l := B ++ A) h, Seg.pv (l := B ++ A) h⟩
/-- One is put behind the others. -/
theorem RgI.ins (h : RgI t L E R b) (h0 : R ≠ []) {x : Nat} (hx : L x) (hn : x ∉ R) :
    RgI (((((t.nxt (E (R.headD 0)).prev x).prv x (E (R.headD 0)).prev).nxt x (R.headD 0)).prv (R.headD 0) x).setRt 15 (R.length + 1)) L (jnE (jnE E (E (R.headD 0)).prev x) x (R.headD 0)) (R ++ [x]) b := by
  cases R with
  | nil => exact absurd rfl h0
  | cons a T =>
    have hp : (E a).prev = (a :: T).getLast (List.cons_ne_nil _ _) := Seg.pv (l := T) h.cyc
    show RgI (((((t.nxt (E a).prev x).prv x (E a).prev).nxt x a).prv a x).setRt 15 (T.length + 1 + 1)) L (jnE (jnE E (E a).prev x) x a) (a :: T ++ [x]) b
    have hpm : (E a).prev ∈ a :: T := hp ▸ List.getLast_mem _
    have hx1 : x ≠ a := fun e => hn (e ▸ List.mem_cons_self ..)
    have hx2 : x ∉ T := fun m => hn (List.mem_cons_of_mem _ m)
    have hnd := List.nodup_cons.1 h.nd
    have hlen : T.length + 2 < 4294967296 := by
      have := nodup_lt 1048576 _ h.nd (fun y hy => ((h.ents.e y (h.sub y hy)).lt h.ents.ok).1)
      rw [List.length_cons] at this
      omega
    have w15 : 256 ^ fldW 15 = 4294967296 := rfl
    have e1 := ((h.ents.join (h.sub _ hpm) hx).join hx (h.sub a (List.mem_cons_self ..))).setRt 15 (T.length + 1 + 1) (by omega)
    refine ⟨e1, fun y hy => ?_, ?_, h.hand, h.broom, by show T.length + 1 + 1 = (T ++ [x]).length + 1; rw [List.length_append]; rfl, fun _ => List.mem_append.2 (.inl (h.bin (List.cons_ne_nil _ _))), fun e => (nomatch e), ?_, fun y hy hm => ?_⟩
    · rcases List.mem_append.1 hy with m | m
      · exact h.sub y m
      · rw [List.mem_singleton.1 m]; exact hx
    · refine List.nodup_append.2 ⟨h.nd, List.pairwise_singleton _ _, fun y hy z hz e => ?_⟩
      rw [List.mem_singleton.1 hz] at e
      exact hn (e ▸ hy)
    · have s1 : Seg (jnE E (E a).prev x) a T x := by rw [hp]; exact seg_last E h.cyc h.nd x hx2
      show Seg _ a (T ++ x :: []) a
      rw [seg_app]
      refine ⟨Seg.same s1 (fun y hy => ?_) (fun y hy => ?_), by rw [jn_next]; exact if_pos rfl, by rw [jn_prev]; exact if_pos rfl⟩
      · rw [jn_next, if_neg]
        rintro rfl
        rcases hy with e | m
        · exact hx1 e
        · exact hx2 m
      · rw [jn_prev, if_neg]
        rintro rfl
        rcases hy with m | e
        · exact hnd.1 m
        · exact hx1 e.symm
    · have m1 : y ∉ a :: T := fun m => hm (List.mem_append.2 (.inl m))
      have m2 : y ≠ x := fun e => hm (List.mem_append.2 (.inr (List.mem_singleton.2 e)))
      have m3 : y ≠ (E a).prev := fun e => m1 (e ▸ hpm)
      have m4 : y ≠ a := fun e => m1 (e ▸ List.mem_cons_self ..)
      rw [jn_next, jn_prev, if_neg m2, if_neg m4, jn_next, jn_prev, if_neg m3, if_neg m2]
      exact h.out y hy m1
end
end Go.Proofs.YtellbfamofilaaaGreatDoor

/- The ring's state: one is taken out; the hand goes on. -/
namespace Go.Proofs.YtellbfamofilaaaGreatDoor
set_option linter.unusedVariables false
set_option linter.unusedSimpArgs false
open Go.RowKit

section
variable {t u : TM} {L : Nat → Prop} {E E' : Nat → HB} {b : Nat}
def alE (E : Nat → HB) (x : Nat) : Nat → HB := pvE (nxE E x 0) x 0
theorem al_next (E : Nat → HB) (x y : Nat) : (alE E x y).next = if y = x then 0 else (E y).next := by
  unfold alE pvE nxE up
  by_cases h : y = x
  · rw [if_pos h, if_pos h, if_pos rfl]
  · rw [if_neg h, if_neg h, if_neg h]
theorem al_prev (E : Nat → HB) (x y : Nat) : (alE E x y).prev = if y = x then 0 else (E y).prev := by
  unfold alE pvE nxE up
  by_cases h : y = x
  · rw [if_pos h, if_pos h]
  · rw [if_neg h, if_neg h, if_neg h]
theorem Ents.alone (h : Ents t L E) {x : Nat} (hx : L x) : Ents ((t.nxt x 0).prv x 0) L (alE E x) := (h.nxt hx 0 (by decide)).prv hx 0 (by decide)
theorem Ents.rnm (h : Ents t L E) (fr to : Nat) (hto : to < 4294967296) : Ents (t.rnm fr to) L E := by
  have w3 : to < 256 ^ fldW 13 := hto
  have w4 : to < 256 ^ fldW 14 := hto
  unfold TM.rnm
  split <;> split
  · exact (h.setRt 13 to w3).setRt 14 to w4
  · exact h.setRt 14 to w4
  · exact h.setRt 13 to w3
  · exact h
theorem rnm_rt (t : TM) (fr to : Nat) : (t.rnm fr to).rt 13 = (if t.rt 13 = fr then to else t.rt 13) ∧ (t.rnm fr to).rt 14 = (if t.rt 14 = fr then to else t.rt 14) ∧ (t.rnm fr to).rt 15 = t.rt 15 := by
  unfold TM.rnm
  split <;> split <;> exact ⟨rfl, rfl, rfl⟩
/-- All the changes that a removal makes. -/
def TM.rem (t : TM) (x n p to : Nat) (k : Nat) : TM := ((((((t.rnm x to).nxt p n).prv n p).nxt x 0).prv x 0)).setRt 15 k
/-- One is taken out. -/
theorem RgI.rem {A B : List Nat} {x : Nat} (h : RgI t L E (A ++ x :: B) b) :
    RgI (t.rem x (E x).next (E x).prev (if (E x).next = x then 0 else (E x).next) (A ++ B).length) L (alE (jnE E (E x).prev (E x).next) x) (A ++ B) (if b = x then (B ++ A).headD 0 else b) := by
  have hnx := cyc_nx h.cyc
  have hnd := h.nd
  have hc := h.cyc
  rw [cyc_rot] at hc
  have hnd' : (x :: (B ++ A)).Nodup := by
    have := (List.perm_append_comm (l₁ := A) (l₂ := x :: B)).nodup_iff.1 hnd
    exact this
  have hxn := List.nodup_cons.1 hnd'
  have hxA : x ∉ A := fun m => hxn.1 (List.mem_append.2 (.inr m))
  have hxB : x ∉ B := fun m => hxn.1 (List.mem_append.2 (.inl m))
  have hL : ∀ y, y ∈ A ++ B → L y := fun y hy => h.sub y (List.mem_append.2 ((List.mem_append.1 hy).imp id (List.mem_cons_of_mem _)))
  have hLx : L x := h.sub x (List.mem_append.2 (.inr (List.mem_cons_self ..)))
  have hlen := nodup_lt 1048576 _ h.nd (fun y hy => ((h.ents.e y (h.sub y hy)).lt h.ents.ok).1)
  have hl2 : (A ++ x :: B).length = (A ++ B).length + 1 := by rw [List.length_append, List.length_append, List.length_cons]; omega
  have hnL : L (E x).next := by
    rw [hnx.1]
    cases hC : B ++ A with
    | nil => exact hLx
    | cons n C => exact hL n (by rw [List.mem_append, or_comm, ← List.mem_append, hC]; exact List.mem_cons_self ..)
  have hpL : L (E x).prev := by
    rw [hnx.2]
    have := List.getLast_mem (l := x :: (B ++ A)) (List.cons_ne_nil _ _)
    rcases List.mem_cons.1 this with e | m
    · rw [e]; exact hLx
    · exact hL _ (by rw [List.mem_append, or_comm, ← List.mem_append]; exact m)
  have l1 := (h.ents.e _ hnL).lt h.ents.ok
  have e1 := (((h.ents.rnm x (if (E x).next = x then 0 else (E x).next) (by split <;> omega)).join hpL hnL).alone hLx).setRt 15 (A ++ B).length (by have w15 : 256 ^ fldW 15 = 4294967296 := rfl; omega)
  -- who was the hand's, and the broom's
  have hto : (if (E x).next = x then 0 else (E x).next) = (B ++ A).headD 0 := by
    rw [hnx.1]
    cases hC : B ++ A with
    | nil => exact if_pos rfl
    | cons n C =>
      show (if n = x then 0 else n) = n
      have : n ≠ x := fun e => hxn.1 (by rw [hC, ← e]; exact List.mem_cons_self ..)
      rw [if_neg this]
  refine ⟨e1, hL, ?_, ?_, ?_, rfl, fun hne => ?_, fun he => ?_, ?_, fun y hy hm => ?_⟩
  · have := (List.perm_append_comm (l₁ := A) (l₂ := B)).nodup_iff.2 hxn.2
    exact this
  · show (t.rnm x _).rt 13 = _
    rw [(rnm_rt t x _).1, h.hand, hto]
    cases A with
    | nil => show (if x = x then (B ++ []).headD 0 else x) = B.headD 0; rw [if_pos rfl, List.append_nil]
    | cons a A =>
      have hax : a ≠ x := fun e => hxA (e ▸ List.mem_cons_self ..)
      show (if a = x then (B ++ a :: A).headD 0 else a) = a
      rw [if_neg hax]
  · show (t.rnm x _).rt 14 = _
    rw [(rnm_rt t x _).2.1, h.broom, hto]
  · by_cases hb : b = x
    · rw [if_pos hb]
      cases hC : B ++ A with
      | nil =>
        have := List.append_eq_nil_iff.1 hC
        exact absurd (by rw [this.1, this.2]; rfl) hne
      | cons n C => show n ∈ A ++ B; rw [List.mem_append, or_comm, ← List.mem_append, hC]; exact List.mem_cons_self ..
    · rw [if_neg hb]
      have := h.bin (fun e => nomatch (List.append_eq_nil_iff.1 e).2)
      rcases List.mem_append.1 this with m | m
      · exact List.mem_append.2 (.inl m)
      · rcases List.mem_cons.1 m with e | m
        · exact absurd e hb
        · exact List.mem_append.2 (.inr m)
  · have hab := List.append_eq_nil_iff.1 he
    have hb := h.bin (fun e => nomatch (List.append_eq_nil_iff.1 e).2)
    rw [hab.1, hab.2] at hb
    rw [if_pos (List.mem_singleton.1 hb), hab.1, hab.2]
    rfl
  · rw [cyc_rot]
    have hc' : Seg E x (B ++ A) x := hc
    rw [hnx.1, hnx.2]
    cases hC : B ++ A with
    | nil => trivial
    | cons n C =>
      rw [hC] at hc' hxn
      have hnC := List.nodup_cons.1 hxn.2
      have s1 := seg_last E hc'.2 hxn.2 n hnC.1
      rw [List.getLast_cons (List.cons_ne_nil _ _)]
      show Seg (alE (jnE E ((n :: C).getLast _) n) x) n C n
      refine Seg.same s1 (fun y hy => ?_) (fun y hy => ?_)
      · rw [al_next, if_neg]
        rintro rfl
        rcases hy with e | m
        · exact hxn.1 (e ▸ List.mem_cons_self ..)
        · exact hxn.1 (List.mem_cons_of_mem _ m)
      · rw [al_prev, if_neg]
        rintro rfl
        rcases hy with m | e
        · exact hxn.1 (List.mem_cons_of_mem _ m)
        · exact hxn.1 (e ▸ List.mem_cons_self ..)
  · rw [al_next, al_prev]
    by_cases hyx : y = x
    · rw [if_pos hyx, if_pos hyx]; exact ⟨rfl, rfl⟩
    · rw [if_neg hyx, if_neg hyx]
      have hyR : y ∉ A ++ x :: B := fun m => by
        rcases List.mem_append.1 m with m | m
        · exact hm (List.mem_append.2 (.inl m))
        · rcases List.mem_cons.1 m with e | m
          · exact hyx e
          · exact hm (List.mem_append.2 (.inr m))
      have o := h.out y hy hyR
      have hp : y ≠ (E x).prev := fun e => by
        rw [hnx.2] at e
        have := List.getLast_mem (l := x :: (B ++ A)) (List.cons_ne_nil _ _)
        rw [← e] at this
        rcases List.mem_cons.1 this with e | m
        · exact hyx e
        · exact hm (by rw [List.mem_append, or_comm, ← List.mem_append]; exact m)
      have hn : y ≠ (E x).next := fun e => by
        rw [hnx.1] at e
        cases hC : B ++ A with
        | nil => rw [hC] at e; exact hyx e
        | cons n C =>
          rw [hC] at e
          exact hm (by rw [List.mem_append, or_comm, ← List.mem_append, hC, e]; exact List.mem_cons_self ..)
      rw [jn_next, jn_prev, if_neg hp, if_neg hn]
      exact o
end
end Go.Proofs.YtellbfamofilaaaGreatDoor

/- Package ring: Insert, Remove: the walks. -/
namespace Go.Proofs.YtellbfamofilaaaGreatDoor
set_option linter.unusedVariables false
set_option linter.unusedSimpArgs false
open Go.RowKit

section
variable {w : World} {q : MH} {t : TM} {L : Nat → Prop} {E : Nat → HB} {R : List Nat} {b : Nat}
end
end Go.Proofs.YtellbfamofilaaaGreatDoor

/- Package ring: Remove. -/
namespace Go.Proofs.YtellbfamofilaaaGreatDoor
set_option linter.unusedVariables false
set_option linter.unusedSimpArgs false
open Go.RowKit

section
variable {w : World} {q : MH} {t : TM} {L : Nat → Prop} {E : Nat → HB} {R : List Nat} {b : Nat}
end
end Go.Proofs.YtellbfamofilaaaGreatDoor

/- The ring's changes leave the slabs as they are. -/
namespace Go.Proofs.YtellbfamofilaaaGreatDoor
set_option linter.unusedVariables false
set_option linter.unusedSimpArgs false
open Go.RowKit

section
variable {t u : TM} {S : SS} {x n : Nat}
theorem LS.same' {inn : Nat → Int} (h : LS t inn) (ha : u.a = t.a) (hr : ∀ c, c ≤ 9 → u.rt (3 + c) = t.rt (3 + c)) (hh : ∀ y r, r = 3 ∨ r = 4 → u.hd y r = t.hd y r) : LS u inn := by
  refine ⟨fun c hc => ?_, fun x hx hn => ?_, fun x hx => h.le x (by rw [← ha]; exact hx)⟩
  · rw [ha, hr c hc]
    exact Lk.same (t := t) (u := u) ha (h.ln c hc) (fun y _ => ⟨hh y 3 (.inl rfl), hh y 4 (.inr rfl)⟩)
  · rw [hh x 3 (.inl rfl), hh x 4 (.inr rfl)]; exact h.out x (by rw [← ha]; exact hx) hn
theorem SlI.inner (hs : SlI t S) (hok : t.Ok) (h : Lv t.a S x n) (ea : u.a = t.a) (es : u.s = t.s) (er : ∀ c, c ≤ 9 → u.rt (3 + c) = t.rt (3 + c)) (eh : u.hd = t.hd) (ek : u.kd = t.kd) (o0 : Out t u x n) : SlI u S := by
  obtain ⟨b1, b2, b3, b4, b5, b6, b7⟩ := lv_at hs hok h
  obtain ⟨i, hi, hx, rfl⟩ := h
  have e1 := hs.each i hi
  have h0 := e1.none (.inr hx)
  obtain ⟨a1, a2, a3, a4, a5, a6, a7⟩ := e1.at_ hok hi (.inr hx)
  obtain ⟨c1, c2, c3, c4, c5, c6, c7⟩ := csz_tab (S.cls i) (by omega) e1.c9
  obtain ⟨z1, z2, z3, z4, z5⟩ := sla_ok hok i hi
  have hkd : ∀ g, kindAt u g = kindAt t g := fun g => by unfold kindAt; rw [ea, es, ek]
  have hK : ∀ {y m k : Nat}, KdOn t y m k → KdOn u y m k := fun hk g g1 g2 => by rw [hkd]; exact hk g g1 g2
  have hsla : ∀ j, sla u j = sla t j := sla_as ea es
  refine ⟨hs.ls.same' ea er (fun _ _ _ => by rw [eh]), fun j hj => ?_⟩
  have hj' : j < t.a := by rw [← ea]; exact hj
  by_cases e : j = i
  · subst e
    refine ⟨by rw [eh]; exact e1.h0, by rw [eh]; exact e1.h1, by rw [eh]; exact e1.h2, e1.c9, fun e => absurd e h0, fun h0 => ?_, e1.so, fun y hy => hK (e1.live y hy), ?_, fun h0 => by rw [hsla]; exact hK (e1.pk h0), fun _ => ?_⟩
    · have : adr u j (S.cls j) = adr t j (S.cls j) := by funext k; exact adr_as ea es j _ k
      rw [this]; exact e1.perm h0
    · refine e1.free.out o0 (fun y hy => ?_)
      obtain ⟨q1, q2, q3, q4, q5, q6, q7⟩ := e1.at_ hok hi (x := y) (.inl hy)
      have hne : y ≠ x := fun e => (List.nodup_append.1 (e1.nodup h0)).2.2 y hy x hx e
      exact ⟨q4, by omega, (e1.apart (.inl hy) (.inr hx) hne)⟩
    · rw [hsla]
      exact (e1.pb h0).out o0 (by omega) (by omega)
  · refine (hs.each j hj').other hok hj' ea es (fun _ _ => by rw [eh]) o0 ?_
    have := sla_apart t e
    omega
theorem SlI.root (hs : SlI t S) (hok : t.Ok) (f v : Nat) (hv : v < 256 ^ fldW f) (hf : f < 3 ∨ 12 < f) : SlI (t.setRt f v) S := by
  refine ⟨hs.ls.same' rfl (fun c hc => ?_) (fun _ _ _ => rfl), fun j hj => ?_⟩
  · rw [TM.setRt_rt, if_neg (by omega)]
  · exact (hs.each j hj).other hok hj rfl rfl (fun _ _ => rfl) (setRt_out hok f v hv (sla t j + 1024) 0) (.inl (Nat.le_refl _))
theorem SlI.rnxt (hs : SlI t S) (hok : t.Ok) (h : Lv t.a S x n) (v : Nat) : SlI (t.nxt x v) S := by
  obtain ⟨b1, b2, b3, b4, b5, b6, b7⟩ := lv_at hs hok h
  exact hs.inner hok h rfl rfl (fun _ _ => rfl) rfl rfl ((setB_out hok (x + 8) 4 v (by omega)).wide (by omega) (by omega))
theorem SlI.rprv (hs : SlI t S) (hok : t.Ok) (h : Lv t.a S x n) (v : Nat) : SlI (t.prv x v) S := by
  obtain ⟨b1, b2, b3, b4, b5, b6, b7⟩ := lv_at hs hok h
  exact hs.inner hok h rfl rfl (fun _ _ => rfl) rfl rfl ((setB_out hok (x + 12) 4 v (by omega)).wide (by omega) (by omega))
end
end Go.Proofs.YtellbfamofilaaaGreatDoor

/- Package ring: Remove of one that is in no ring. -/
namespace Go.Proofs.YtellbfamofilaaaGreatDoor
set_option linter.unusedVariables false
set_option linter.unusedSimpArgs false
open Go.RowKit

section
variable {w : World} {q : MH} {t : TM} {L : Nat → Prop} {E : Nat → HB} {R : List Nat} {b : Nat}
end
end Go.Proofs.YtellbfamofilaaaGreatDoor

/- Package ring: a pointer goes on: Turn, Brush. -/
namespace Go.Proofs.YtellbfamofilaaaGreatDoor
set_option linter.unusedVariables false
set_option linter.unusedSimpArgs false
open Go.RowKit

section
variable {w : World} {q : MH} {t : TM} {L : Nat → Prop} {E : Nat → HB} {R : List Nat} {b : Nat}
end
end Go.Proofs.YtellbfamofilaaaGreatDoor

/- Package ring: Hand, Broom, Turn, Brush. -/
namespace Go.Proofs.YtellbfamofilaaaGreatDoor
set_option linter.unusedVariables false
set_option linter.unusedSimpArgs false
open Go.RowKit

section
variable {w : World} {q : MH} {t : TM} {L : Nat → Prop} {E : Nat → HB} {R : List Nat} {b : Nat}
end
end Go.Proofs.YtellbfamofilaaaGreatDoor

/- The ring's state: the hand goes on, the broom goes on. -/
namespace Go.Proofs.YtellbfamofilaaaGreatDoor
set_option linter.unusedVariables false
set_option linter.unusedSimpArgs false
open Go.RowKit

section
variable {t u : TM} {L : Nat → Prop} {E : Nat → HB} {R : List Nat} {b : Nat}
theorem RgI.turn {a : Nat} {T : List Nat} (h : RgI t L E (a :: T) b) : RgI (t.setRt 13 (E a).next) L E (T ++ [a]) b := by
  have ha : L a := h.sub a (List.mem_cons_self ..)
  have hx : (E a).next < 4294967296 := (h.ents.e a ha).ok.next
  have hn : (E a).next = T.headD a := Seg.nx (l := T) h.cyc
  have hm : ∀ y, y ∈ T ++ [a] ↔ y ∈ a :: T := fun y => by rw [List.mem_append, List.mem_singleton, List.mem_cons, or_comm]
  refine ⟨h.ents.setRt 13 _ hx, fun y hy => h.sub y ((hm y).1 hy), (List.perm_append_comm (l₁ := [a]) (l₂ := T)).nodup_iff.1 h.nd, ?_, h.broom, ?_, fun _ => (hm b).2 (h.bin (List.cons_ne_nil _ _)), fun e => ?_, (cyc_rot1 E a T).1 h.cyc, fun y hy m => h.out y hy (fun m' => m ((hm y).2 m'))⟩
  · show (E a).next = _
    rw [hn]
    cases T with
    | nil => rfl
    | cons y T => rfl
  · show t.rt 15 = _
    rw [h.cnt, List.length_append]; rfl
  · exact absurd e (fun e => nomatch (List.append_eq_nil_iff.1 e).2)
end
end Go.Proofs.YtellbfamofilaaaGreatDoor
