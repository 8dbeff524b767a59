/- Several texts in one. -/
import Derived.Test.YtellbfamofilaaaGreatDoorKA
import Derived.Test.YtellbfamofilaaaGreatDoorGI
/- The ring beside the slabs: what stays, what is new, what is the same byte by byte. -/
namespace Go.Proofs.YtellbfamofilaaaGreatDoor
set_option linter.unusedVariables false
set_option linter.unusedSimpArgs false
open Go.RowKit

section
variable {t u v : TM} {L L' : Nat → Prop} {E E' : Nat → HB} {R : List Nat} {b : Nat} {S : SS} {x n : Nat}
theorem RgI.nbr (h : RgI t L E R b) (hx : x ∈ R) : (E x).next ∈ R ∧ (E x).prev ∈ R := by
  obtain ⟨A, B, rfl⟩ := List.append_of_mem hx
  obtain ⟨h1, h2⟩ := cyc_nx h.cyc
  rw [h1, h2]
  have hm : ∀ y, y ∈ x :: (B ++ A) → y ∈ A ++ x :: B := fun y hy => by
    rcases List.mem_cons.1 hy with e | m
    · rw [e]; exact hx
    · rcases List.mem_append.1 m with m | m
      · exact List.mem_append.2 (.inr (List.mem_cons_of_mem _ m))
      · exact List.mem_append.2 (.inl m)
  refine ⟨hm _ ?_, hm _ (List.getLast_mem _)⟩
  cases hC : B ++ A with
  | nil => exact List.mem_cons_self ..
  | cons y C => exact List.mem_cons_of_mem _ (List.mem_cons_self ..)
theorem EntH.keep {X : HB} (h : EntH t x X) (ha : u.a = t.a) (hs : u.s = t.s) (hk : KdOn u x 32 5) (hb : ∀ k, k < 32 → byteAt u (x + k) = byteAt t (x + k)) : EntH u x X := by
  refine ⟨⟨h.h.tg, by rw [ha, hs]; exact h.h.base, h.h.al, by rw [ha, hs]; exact h.h.fit, h.h.k0, fun g g1 g2 => hk g g1 g2, fun f hf h0 j hj => ?_, h.h.lt⟩, h.ok, h.r, h.tag⟩
  have w := wh_ok 1 f (by decide) hf h0
  have s1 : sz 1 = 32 := rfl
  rw [Nat.add_assoc, hb _ (by omega), ← Nat.add_assoc]
  exact h.h.byte f hf h0 j hj
/-- The ring stays, whatever else there is. -/
theorem RgI.to (h : RgI t L E R b) (hok : u.Ok) (hr : ∀ f, 12 < f → u.rt f = t.rt f) (he : ∀ y, L' y → L y ∧ EntH u y (E y)) (hR : ∀ y ∈ R, L' y) : RgI u L' E R b :=
  ⟨⟨hok, fun y hy => (he y hy).2, fun y z hy hz hne => h.ents.ap y z (he y hy).1 (he z hz).1 hne⟩, hR, h.nd, by rw [hr 13 (by decide)]; exact h.hand, by rw [hr 14 (by decide)]; exact h.broom, by rw [hr 15 (by decide)]; exact h.cnt,
    h.bin, h.bnil, h.cyc, fun y hy => h.out y (he y hy).1⟩
/-- A new entry, in no ring. -/
theorem RgI.add {X : HB} (h : RgI t L E R b) (hx : ¬ L x) (hX : EntH t x X) (h1 : X.next = 0) (h2 : X.prev = 0) (hap : ∀ y, L y → x + 32 ≤ y ∨ y + 32 ≤ x) (hL : ∀ y, L' y ↔ y = x ∨ L y) : RgI t L' (up E x X) R b := by
  have hE : ∀ y, L y → up E x X y = E y := fun y hy => up_ne _ _ (fun e => hx (e ▸ hy))
  have hR : ∀ y ∈ R, y ≠ x := fun y hy e => hx (e ▸ h.sub y hy)
  refine ⟨⟨h.ents.ok, fun y hy => ?_, fun y z hy hz hne => ?_⟩, fun y hy => (hL y).2 (.inr (h.sub y hy)), h.nd, h.hand, h.broom, h.cnt, h.bin, h.bnil, h.cyc.same (fun y hy => ?_), fun y hy hn => ?_⟩
  · rcases (hL y).1 hy with e | m
    · rw [e, up_same]; exact hX
    · rw [hE y m]; exact h.ents.e y m
  · rcases (hL y).1 hy with e | m <;> rcases (hL z).1 hz with e' | m'
    · exact absurd (e.trans e'.symm) hne
    · rw [e]; exact hap z m'
    · rw [e']; exact (hap y m).symm
    · exact h.ents.ap y z m m' hne
  · rw [up_ne _ _ (hR y hy)]; exact ⟨rfl, rfl⟩
  · rcases (hL y).1 hy with e | m
    · rw [e, up_same]; exact ⟨h1, h2⟩
    · rw [hE y m]; exact h.out y m hn
def LvP (S : SS) (x : Nat) : Prop := ∃ n, Lv 7 S x n
/-- The changes that an insertion makes. -/
def insT (t : TM) (E : Nat → HB) (R : List Nat) (x : Nat) : TM :=
  if R = [] then ((((t.nxt x x).prv x x).setRt 13 x).setRt 14 x).setRt 15 1
  else ((((t.nxt (E (R.headD 0)).prev x).prv x (E (R.headD 0)).prev).nxt x (R.headD 0)).prv (R.headD 0) x).setRt 15 (R.length + 1)
/-- All is as it was but for links of entries, and the ring's own fields of the root. -/
structure Nbr (t u : TM) (L : Nat → Prop) : Prop where
  a : u.a = t.a
  s : u.s = t.s
  hd : u.hd = t.hd
  sl : u.sl = t.sl
  kd : u.kd = t.kd
  ft : u.ft = t.ft
  rt : ∀ f, f < 13 ∨ 15 < f → u.rt f = t.rt f
  by_ : ∀ i, (∀ x, L x → i < x + 8 ∨ x + 16 ≤ i) → lbase t.a t.s ≤ i → byteAt u i = byteAt t i
  ok : u.Ok
theorem Nbr.refl (hok : t.Ok) : Nbr t t L := ⟨rfl, rfl, rfl, rfl, rfl, rfl, fun _ _ => rfl, fun _ _ _ => rfl, hok⟩
theorem Nbr.trans (h : Nbr t u L) (k : Nbr u v L) : Nbr t v L :=
  ⟨k.a.trans h.a, k.s.trans h.s, k.hd.trans h.hd, k.sl.trans h.sl, k.kd.trans h.kd, k.ft.trans h.ft, fun f hf => (k.rt f hf).trans (h.rt f hf), fun i hi hl => (k.by_ i hi (by rw [h.a, h.s]; exact hl)).trans (h.by_ i hi hl), k.ok⟩
theorem nbr_setB (hok : t.Ok) (hx : L x) (hb : lbase t.a t.s ≤ x) (o v : Nat) (ho : o = 8 ∨ o = 12) : Nbr t (t.setB (x + o) 4 v) L :=
  ⟨rfl, rfl, rfl, rfl, rfl, rfl, fun _ _ => rfl, fun i hi hl => by rw [setB_byte hok _ _ _ (by omega), if_neg]; have := hi x hx; omega, setB_ok hok _ _ _⟩
theorem nbr_rt (hok : t.Ok) (f v : Nat) (hf : f = 13 ∨ f = 14 ∨ f = 15) (hv : v < 4294967296) : Nbr t (t.setRt f v) L := by
  have hw : v < 256 ^ fldW f := by rcases hf with rfl | rfl | rfl <;> exact hv
  exact ⟨rfl, rfl, rfl, rfl, rfl, rfl, fun g hg => by rw [TM.setRt_rt, if_neg (by omega)], fun i hi hl => (setRt_out hok f v hw i 0).by_ i hl (by omega), setRt_ok hok f v hw⟩
theorem Ents.base (h : Ents t L E) (hx : L x) : lbase t.a t.s ≤ x := (h.e x hx).h.base
theorem Nbr.nxt (h : Nbr t u L) (hx : L x) (hb : lbase t.a t.s ≤ x) (v : Nat) : Nbr t (u.nxt x v) L := h.trans (nbr_setB h.ok hx (by rw [h.a, h.s]; exact hb) 8 v (.inl rfl))
theorem Nbr.prv (h : Nbr t u L) (hx : L x) (hb : lbase t.a t.s ≤ x) (v : Nat) : Nbr t (u.prv x v) L := h.trans (nbr_setB h.ok hx (by rw [h.a, h.s]; exact hb) 12 v (.inr rfl))
theorem Nbr.root (h : Nbr t u L) (f v : Nat) (hf : f = 13 ∨ f = 14 ∨ f = 15) (hv : v < 4294967296) : Nbr t (u.setRt f v) L := h.trans (nbr_rt h.ok f v hf hv)
theorem Nbr.rnm (h : Nbr t u L) (fr to : Nat) (hto : to < 4294967296) : Nbr t (u.rnm fr to) L := by
  unfold TM.rnm
  split <;> split
  · exact (h.root 13 to (by decide) hto).root 14 to (by decide) hto
  · exact h.root 14 to (by decide) hto
  · exact h.root 13 to (by decide) hto
  · exact h
theorem RgI.lt4 (h : RgI t L E R b) (hx : L x) : x < 1048576 := ((h.ents.e x hx).lt h.ents.ok).1
theorem RgI.len (h : RgI t L E R b) : R.length ≤ 1048576 := nodup_lt 1048576 _ h.nd (fun y hy => h.lt4 (h.sub y hy))
theorem SlI.rnm (hs : SlI t S) (hok : t.Ok) (fr to : Nat) (hto : to < 4294967296) : SlI (t.rnm fr to) S := by
  have w3 : to < 256 ^ fldW 13 := hto
  have w4 : to < 256 ^ fldW 14 := hto
  have h3 := hs.root hok 13 to w3 (by decide)
  have k3 := setRt_ok hok 13 to w3
  unfold TM.rnm
  split <;> split
  · exact h3.root k3 14 to w4 (by decide)
  · exact hs.root hok 14 to w4 (by decide)
  · exact h3
  · exact hs
theorem SlI.ins (hs : SlI t S) (h : RgI t L E R b) (hL : ∀ y, L y → ∃ m, Lv t.a S y m) (hx : L x) : SlI (insT t E R x) S := by
  have lx := h.lt4 hx
  have hl := h.len
  have ok := h.ents.ok
  obtain ⟨n, lvx⟩ := hL x hx
  unfold insT
  by_cases h0 : R = []
  · rw [if_pos h0]
    have ok1 := setB_ok ok (x + 8) 4 x
    have ok2 := setB_ok ok1 (x + 12) 4 x
    have s2 := (hs.rnxt ok lvx x).rprv ok1 lvx x
    have ok3 := setRt_ok ok2 13 x (by have : 256 ^ fldW 13 = 4294967296 := rfl; omega)
    have s3 := s2.root ok2 13 x (by have : 256 ^ fldW 13 = 4294967296 := rfl; omega) (by decide)
    have ok4 := setRt_ok ok3 14 x (by have : 256 ^ fldW 14 = 4294967296 := rfl; omega)
    have s4 := s3.root ok3 14 x (by have : 256 ^ fldW 14 = 4294967296 := rfl; omega) (by decide)
    exact s4.root ok4 15 1 (by decide) (by decide)
  · rw [if_neg h0]
    have hh : R.headD 0 ∈ R := by
      cases R with
      | nil => exact absurd rfl h0
      | cons a T => exact List.mem_cons_self ..
    obtain ⟨np, lvp⟩ := hL _ (h.sub _ (h.nbr hh).2)
    obtain ⟨nh, lvh⟩ := hL _ (h.sub _ hh)
    have ok1 := setB_ok ok ((E (R.headD 0)).prev + 8) 4 x
    have s1 := hs.rnxt ok lvp x
    have ok2 := setB_ok ok1 (x + 12) 4 (E (R.headD 0)).prev
    have s2 := s1.rprv ok1 lvx (E (R.headD 0)).prev
    have ok3 := setB_ok ok2 (x + 8) 4 (R.headD 0)
    have s3 := s2.rnxt ok2 lvx (R.headD 0)
    have ok4 := setB_ok ok3 (R.headD 0 + 12) 4 x
    have s4 := s3.rprv ok3 lvh x
    exact s4.root ok4 15 _ (by have : 256 ^ fldW 15 = 4294967296 := rfl; omega) (by decide)
theorem SlI.rem (hs : SlI t S) (h : RgI t L E R b) (hL : ∀ y, L y → ∃ m, Lv t.a S y m) (hx : x ∈ R) (k : Nat) (hk : k ≤ R.length) : SlI (t.rem x (E x).next (E x).prev (if (E x).next = x then 0 else (E x).next) k) S := by
  have hl := h.len
  have ok := h.ents.ok
  have hn := h.sub _ (h.nbr hx).1
  have hp := h.sub _ (h.nbr hx).2
  have hxL := h.sub x hx
  have ln := h.lt4 hn
  obtain ⟨n1, lvx⟩ := hL x hxL
  obtain ⟨n2, lvn⟩ := hL _ hn
  obtain ⟨n3, lvp⟩ := hL _ hp
  have hto : (if (E x).next = x then 0 else (E x).next) < 4294967296 := by split <;> omega
  have ok0 := (Nbr.refl (L := L) ok).rnm x _ hto
  have s0 := hs.rnm ok x _ hto
  generalize hg : t.rnm x (if (E x).next = x then 0 else (E x).next) = r at *
  have ea : r.a = t.a := ok0.a
  rw [← ea] at lvx lvn lvp
  have ok1 := setB_ok ok0.ok ((E x).prev + 8) 4 (E x).next
  have s1 := s0.rnxt ok0.ok lvp (E x).next
  have ok2 := setB_ok ok1 ((E x).next + 12) 4 (E x).prev
  have s2 := s1.rprv ok1 lvn (E x).prev
  have ok3 := setB_ok ok2 (x + 8) 4 0
  have s3 := s2.rnxt ok2 lvx 0
  have ok4 := setB_ok ok3 (x + 12) 4 0
  have s4 := s3.rprv ok3 lvx 0
  have s5 := s4.root ok4 15 k (by have : 256 ^ fldW 15 = 4294967296 := rfl; omega) (by decide)
  unfold TM.rem
  rw [hg]
  exact s5
/-- Two memories with the same ring, that are the same but for links, are the same byte by byte. -/
theorem RgI.bytes (h : RgI t L E R b) (k : RgI u L E' R b) (n : Nbr t u L) : u.bytes = t.bytes := by
  have hlk : ∀ x, L x → (E' x).next = (E x).next ∧ (E' x).prev = (E x).prev := fun x hx => by
    by_cases hm : x ∈ R
    · obtain ⟨A, B, rfl⟩ := List.append_of_mem hm
      have c1 := cyc_nx h.cyc
      have c2 := cyc_nx k.cyc
      exact ⟨c2.1.trans c1.1.symm, c2.2.trans c1.2.symm⟩
    · have c1 := h.out x hx hm
      have c2 := k.out x hx hm
      exact ⟨c2.1.trans c1.1.symm, c2.2.trans c1.2.symm⟩
  have hrt : u.rt = t.rt := by
    funext f
    by_cases hf : f < 13 ∨ 15 < f
    · exact n.rt f hf
    · have : f = 13 ∨ f = 14 ∨ f = 15 := by omega
      rcases this with rfl | rfl | rfl
      · exact k.hand.trans h.hand.symm
      · exact k.broom.trans h.broom.symm
      · exact k.cnt.trans h.cnt.symm
  have key : ∀ i, byteAt u i = byteAt t i := fun i => by
    by_cases hi : i < lbase t.a t.s
    · exact byteAt_low t u n.a n.s hrt n.hd n.sl i hi h.ents.ok
    · by_cases hq : ∃ x, L x ∧ x + 8 ≤ i ∧ i < x + 16
      · obtain ⟨x, hx, h1, h2⟩ := hq
        have e1 := (h.ents.e x hx).h.byte
        have e2 := (k.ents.e x hx).h.byte
        obtain ⟨q1, q2⟩ := hlk x hx
        by_cases h3 : i < x + 12
        · have a1 := e1 5 (by decide) (by decide) (i - (x + 8)) (by show _ < 4; omega)
          have a2 := e2 5 (by decide) (by decide) (i - (x + 8)) (by show _ < 4; omega)
          have ei : x + (wh 1 5).1 + (i - (x + 8)) = i := by show x + 8 + (i - (x + 8)) = i; omega
          rw [ei] at a1 a2
          rw [a1, a2]
          show nb (E' x).next _ = nb (E x).next _
          rw [q1]
        · have a1 := e1 6 (by decide) (by decide) (i - (x + 12)) (by show _ < 4; omega)
          have a2 := e2 6 (by decide) (by decide) (i - (x + 12)) (by show _ < 4; omega)
          have ei : x + (wh 1 6).1 + (i - (x + 12)) = i := by show x + 12 + (i - (x + 12)) = i; omega
          rw [ei] at a1 a2
          rw [a1, a2]
          show nb (E' x).prev _ = nb (E x).prev _
          rw [q2]
      · exact n.by_ i (fun x hx => by
          by_cases c : i < x + 8
          · exact .inl c
          · exact .inr (by
              by_cases c2 : x + 16 ≤ i
              · exact c2
              · exact absurd ⟨x, hx, by omega, by omega⟩ hq)) (by omega)
  unfold TM.bytes
  rw [n.a, n.s]
  exact List.map_congr_left (fun i _ => key i)
end
end Go.Proofs.YtellbfamofilaaaGreatDoor
