/- Several texts in one. -/
import Derived.Test.YtkapkbiccppldaaGreatDoorKA
import Derived.Test.YtkapkbiccppldaaGreatDoorGI
import Derived.Test.YtkapkbiccppldaaGreatDoorGD
import Derived.Test.YtkapkbiccppldaaGreatDoorGA
import Derived.Test.YtkapkbiccppldaaGreatDoorKC
/- The ring beside the slabs: what stays, what is new, what is the same byte by byte. -/
namespace Go.Proofs.YtkapkbiccppldaaGreatDoor
set_option linter.unusedVariables false
set_option linter.unusedSimpArgs false
open Go.RowKit

section
variable {t u v : TM} {L L' : Nat → Prop} {E E' : Nat → HB} {R : List Nat} {b : Nat} {S : SS} {x n : Nat}
theorem RgI.nbr (h : RgI t L E R b) (hx : x ∈ R) : (E x).next ∈ R ∧ (E x).prev ∈ R := by
  obtain ⟨A, B, rfl⟩ := List.append_of_mem hx
  obtain ⟨h1, h2⟩ := cyc_nx h.cyc
  rw [h1, h2]
  have hm : ∀ y, y ∈ x :: (B ++ A) → y ∈ A ++ x :: B := fun y hy => by
    rcases List.mem_cons.1 hy with e | m
    · rw [e]; exact hx
    · rcases List.mem_append.1 m with m | m
      · exact List.mem_append.2 (.inr (List.mem_cons_of_mem _ m))
      · exact List.mem_append.2 (.inl m)
  refine ⟨hm _ ?_, hm _ (List.getLast_mem _)⟩
  cases hC : B ++ A with
  | nil => exact List.mem_cons_self ..
  | cons y C => exact List.mem_cons_of_mem _ (List.mem_cons_self ..)
theorem EntH.keep {X : HB} (h : EntH t x X) (ha : u.a = t.a) (hs : u.s = t.s) (hk : KdOn u x 32 5) (hb : ∀ k, k < 32 → byteAt u (x + k) = byteAt t (x + k)) : EntH u x X := by
  refine ⟨⟨h.h.tg, by rw [ha, hs]; exact h.h.base, h.h.al, by rw [ha, hs]; exact h.h.fit, h.h.k0, fun g g1 g2 => hk g g1 g2, fun f hf h0 j hj => ?_, h.h.lt⟩, h.ok, h.r, h.tag⟩
  have w := wh_ok 1 f (by decide) hf h0
  have s1 : sz 1 = 32 := rfl
  rw [Nat.add_assoc, hb _ (by omega), ← Nat.add_assoc]
  exact h.h.byte f hf h0 j hj
/-- The ring stays, whatever else there is. -/
theorem RgI.to (h : RgI t L E R b) (hok : u.Ok) (hr : ∀ f, 12 < f → u.rt f = t.rt f) (he : ∀ y, L' y → L y ∧ EntH u y (E y)) (hR : ∀ y ∈ R, L' y) : RgI u L' E R b :=
  ⟨⟨hok, fun y hy => (he y hy).2, fun y z hy hz hne => h.ents.ap y z (he y hy).1 (he z hz).1 hne⟩, hR, h.nd, by rw [hr 13 (by decide)]; exact h.hand, by rw [hr 14 (by decide)]; exact h.broom, by rw [hr 15 (by decide)]; exact h.cnt,
    h.bin, h.bnil, h.cyc, fun y hy => h.out y (he y hy).1⟩
/-- A new entry, in no ring. -/
theorem RgI.add {X : HB} (h : RgI t L E R b) (hx : ¬ L x) (hX : EntH t x X) (h1 : X.next = 0) (h2 : X.prev = 0) (hap : ∀ y, L y → x + 32 ≤ y ∨ y + 32 ≤ x) (hL : ∀ y, L' y ↔ y = x ∨ L y) : RgI t L' (up E x X) R b := by
  have hE : ∀ y, L y → up E x X y = E y := fun y hy => up_ne _ _ (fun e => hx (e ▸ hy))
  have hR : ∀ y ∈ R, y ≠ x := fun y hy e => hx (e ▸ h.sub y hy)
  refine ⟨⟨h.ents.ok, fun y hy => ?_, fun y z hy hz hne => ?_⟩, fun y hy => (hL y).2 (.inr (h.sub y hy)), h.nd, h.hand, h.broom, h.cnt, h.bin, h.bnil, h.cyc.same (fun y hy => ?_), fun y hy hn => ?_⟩
  · rcases (hL y).1 hy with e | m
    · rw [e, up_same]; exact hX
    · rw [hE y m]; exact h.ents.e y m
  · rcases (hL y).1 hy with e | m <;> rcases (hL z).1 hz with e' | m'
    · exact absurd (e.trans e'.symm) hne
    · rw [e]; exact hap z m'
    · rw [e']; exact (hap y m).symm
    · exact h.ents.ap y z m m' hne
  · rw [up_ne _ _ (hR y hy)]; exact ⟨rfl, rfl⟩
  · rcases (hL y).1 hy with e | m
    · rw [e, up_same]; exact ⟨h1, h2⟩
    · rw [hE y m]; exact h.out y m hn
theorem putH_out (hok : t.Ok) (hx : lbase t.a t.s ≤ x) (N : Nat → Nat) : ∀ k, k ≤ 12 → Out t (t.putH x 1 N k) x 32
  | 0, _ => Out.refl _ _ _
  | k + 1, hk => by
    have ih := putH_out hok hx N k (by omega)
    have as_ := putH_as t x 1 N k
    unfold TM.putH
    by_cases h0 : (wh 1 k).2 = 0
    · rw [if_pos h0]; exact ih
    · rw [if_neg h0]
      have w := wh_ok 1 k (by decide) (by omega) h0
      have s1 : sz 1 = 32 := rfl
      have := setB_out (putH_ok hok x 1 N k) (x + (wh 1 k).1) (wh 1 k).2 (N k) (by rw [as_.1, as_.2]; omega)
      exact ih.trans (this.wide (by omega) (by omega)) as_.1 as_.2
theorem putH_rest (t : TM) (x : Nat) (N : Nat → Nat) : ∀ k, (t.putH x 1 N k).rt = t.rt ∧ (t.putH x 1 N k).hd = t.hd ∧ (t.putH x 1 N k).kd = t.kd ∧ (t.putH x 1 N k).ft = t.ft ∧ (t.putH x 1 N k).sl = t.sl
  | 0 => ⟨rfl, rfl, rfl, rfl, rfl⟩
  | k + 1 => by
    unfold TM.putH
    split
    · exact putH_rest t x N k
    · exact putH_rest t x N k
theorem SlI.rput (hs : SlI t S) (hok : t.Ok) (h : Lv t.a S x n) (N : Nat → Nat) : SlI (t.putH x 1 N 12) S := by
  obtain ⟨b1, b2, b3, b4, b5, b6, b7⟩ := lv_at hs hok h
  have as_ := putH_as t x 1 N 12
  obtain ⟨r1, r2, r3, r4, r5⟩ := putH_rest t x N 12
  exact hs.inner hok h as_.1 as_.2 (fun c _ => by rw [r1]) r2 r3 ((putH_out hok b1 N 12 (by decide)).wide (by omega) (by omega))
def LvP (S : SS) (x : Nat) : Prop := ∃ n, Lv 7 S x n
/-- The changes that an insertion makes. -/
def insT (t : TM) (E : Nat → HB) (R : List Nat) (x : Nat) : TM :=
  if R = [] then ((((t.nxt x x).prv x x).setRt 13 x).setRt 14 x).setRt 15 1
  else ((((t.nxt (E (R.headD 0)).prev x).prv x (E (R.headD 0)).prev).nxt x (R.headD 0)).prv (R.headD 0) x).setRt 15 (R.length + 1)
def insH (E : Nat → HB) (R : List Nat) (x : Nat) : Nat → HB := if R = [] then jnE E x x else jnE (jnE E (E (R.headD 0)).prev x) x (R.headD 0)
def insB (R : List Nat) (b x : Nat) : Nat := if R = [] then x else b
theorem RgI.insAny (h : RgI t L E R b) (hx : L x) (hn : x ∉ R) : RgI (insT t E R x) L (insH E R x) (R ++ [x]) (insB R b x) := by
  unfold insT insH insB
  by_cases h0 : R = []
  · subst h0
    rw [if_pos rfl, if_pos rfl, if_pos rfl]
    exact h.ins0 hx
  · rw [if_neg h0, if_neg h0, if_neg h0]
    exact h.ins h0 hx hn
/-- All is as it was but for links of entries, and the ring's own fields of the root. -/
structure Nbr (t u : TM) (L : Nat → Prop) : Prop where
  a : u.a = t.a
  s : u.s = t.s
  hd : u.hd = t.hd
  sl : u.sl = t.sl
  kd : u.kd = t.kd
  ft : u.ft = t.ft
  rt : ∀ f, f < 13 ∨ 15 < f → u.rt f = t.rt f
  by_ : ∀ i, (∀ x, L x → i < x + 8 ∨ x + 16 ≤ i) → lbase t.a t.s ≤ i → byteAt u i = byteAt t i
  ok : u.Ok
theorem Nbr.refl (hok : t.Ok) : Nbr t t L := ⟨rfl, rfl, rfl, rfl, rfl, rfl, fun _ _ => rfl, fun _ _ _ => rfl, hok⟩
theorem Nbr.trans (h : Nbr t u L) (k : Nbr u v L) : Nbr t v L :=
  ⟨k.a.trans h.a, k.s.trans h.s, k.hd.trans h.hd, k.sl.trans h.sl, k.kd.trans h.kd, k.ft.trans h.ft, fun f hf => (k.rt f hf).trans (h.rt f hf), fun i hi hl => (k.by_ i hi (by rw [h.a, h.s]; exact hl)).trans (h.by_ i hi hl), k.ok⟩
theorem nbr_setB (hok : t.Ok) (hx : L x) (hb : lbase t.a t.s ≤ x) (o v : Nat) (ho : o = 8 ∨ o = 12) : Nbr t (t.setB (x + o) 4 v) L :=
  ⟨rfl, rfl, rfl, rfl, rfl, rfl, fun _ _ => rfl, fun i hi hl => by rw [setB_byte hok _ _ _ (by omega), if_neg]; have := hi x hx; omega, setB_ok hok _ _ _⟩
theorem nbr_rt (hok : t.Ok) (f v : Nat) (hf : f = 13 ∨ f = 14 ∨ f = 15) (hv : v < 4294967296) : Nbr t (t.setRt f v) L := by
  have hw : v < 256 ^ fldW f := by rcases hf with rfl | rfl | rfl <;> exact hv
  exact ⟨rfl, rfl, rfl, rfl, rfl, rfl, fun g hg => by rw [TM.setRt_rt, if_neg (by omega)], fun i hi hl => (setRt_out hok f v hw i 0).by_ i hl (by omega), setRt_ok hok f v hw⟩
theorem Ents.base (h : Ents t L E) (hx : L x) : lbase t.a t.s ≤ x := (h.e x hx).h.base
theorem Nbr.nxt (h : Nbr t u L) (hx : L x) (hb : lbase t.a t.s ≤ x) (v : Nat) : Nbr t (u.nxt x v) L := h.trans (nbr_setB h.ok hx (by rw [h.a, h.s]; exact hb) 8 v (.inl rfl))
theorem Nbr.prv (h : Nbr t u L) (hx : L x) (hb : lbase t.a t.s ≤ x) (v : Nat) : Nbr t (u.prv x v) L := h.trans (nbr_setB h.ok hx (by rw [h.a, h.s]; exact hb) 12 v (.inr rfl))
theorem Nbr.root (h : Nbr t u L) (f v : Nat) (hf : f = 13 ∨ f = 14 ∨ f = 15) (hv : v < 4294967296) : Nbr t (u.setRt f v) L := h.trans (nbr_rt h.ok f v hf hv)
theorem Nbr.rnm (h : Nbr t u L) (fr to : Nat) (hto : to < 4294967296) : Nbr t (u.rnm fr to) L := by
  unfold TM.rnm
  split <;> split
  · exact (h.root 13 to (by decide) hto).root 14 to (by decide) hto
  · exact h.root 14 to (by decide) hto
  · exact h.root 13 to (by decide) hto
  · exact h
theorem RgI.lt4 (h : RgI t L E R b) (hx : L x) : x < 1048576 := ((h.ents.e x hx).lt h.ents.ok).1
theorem RgI.len (h : RgI t L E R b) : R.length ≤ 1048576 := nodup_lt 1048576 _ h.nd (fun y hy => h.lt4 (h.sub y hy))
theorem RgI.nbrIns (h : RgI t L E R b) (hx : L x) : Nbr t (insT t E R x) L := by
  have r0 := Nbr.refl (L := L) h.ents.ok
  have hb : ∀ y, L y → lbase t.a t.s ≤ y := fun y hy => h.ents.base hy
  have lx := h.lt4 hx
  have hl := h.len
  unfold insT
  by_cases h0 : R = []
  · rw [if_pos h0]
    exact ((((r0.nxt hx (hb x hx) x).prv hx (hb x hx) x).root 13 x (by decide) (by omega)).root 14 x (by decide) (by omega)).root 15 1 (by decide) (by omega)
  · rw [if_neg h0]
    have hh : R.headD 0 ∈ R := by
      cases R with
      | nil => exact absurd rfl h0
      | cons a T => exact List.mem_cons_self ..
    have hp := h.sub _ (h.nbr hh).2
    have hhL := h.sub _ hh
    exact ((((r0.nxt hp (hb _ hp) x).prv hx (hb x hx) _).nxt hx (hb x hx) _).prv hhL (hb _ hhL) x).root 15 _ (by decide) (by omega)
theorem RgI.nbrRem (h : RgI t L E R b) (hx : x ∈ R) (k : Nat) (hk : k ≤ R.length) : Nbr t (t.rem x (E x).next (E x).prev (if (E x).next = x then 0 else (E x).next) k) L := by
  have r0 := Nbr.refl (L := L) h.ents.ok
  have hb : ∀ y, L y → lbase t.a t.s ≤ y := fun y hy => h.ents.base hy
  have hl := h.len
  have hn := h.sub _ (h.nbr hx).1
  have hp := h.sub _ (h.nbr hx).2
  have hxL := h.sub x hx
  have ln := h.lt4 hn
  exact (((((r0.rnm x _ (by split <;> omega)).nxt hp (hb _ hp) _).prv hn (hb _ hn) _).nxt hxL (hb x hxL) 0).prv hxL (hb x hxL) 0).root 15 _ (by decide) (by omega)
theorem SlI.rnm (hs : SlI t S) (hok : t.Ok) (fr to : Nat) (hto : to < 4294967296) : SlI (t.rnm fr to) S := by
  have w3 : to < 256 ^ fldW 13 := hto
  have w4 : to < 256 ^ fldW 14 := hto
  have h3 := hs.root hok 13 to w3 (by decide)
  have k3 := setRt_ok hok 13 to w3
  unfold TM.rnm
  split <;> split
  · exact h3.root k3 14 to w4 (by decide)
  · exact hs.root hok 14 to w4 (by decide)
  · exact h3
  · exact hs
theorem SlI.ins (hs : SlI t S) (h : RgI t L E R b) (hL : ∀ y, L y → ∃ m, Lv t.a S y m) (hx : L x) : SlI (insT t E R x) S := by
  have lx := h.lt4 hx
  have hl := h.len
  have ok := h.ents.ok
  obtain ⟨n, lvx⟩ := hL x hx
  unfold insT
  by_cases h0 : R = []
  · rw [if_pos h0]
    have ok1 := setB_ok ok (x + 8) 4 x
    have ok2 := setB_ok ok1 (x + 12) 4 x
    have s2 := (hs.rnxt ok lvx x).rprv ok1 lvx x
    have ok3 := setRt_ok ok2 13 x (by have : 256 ^ fldW 13 = 4294967296 := rfl; omega)
    have s3 := s2.root ok2 13 x (by have : 256 ^ fldW 13 = 4294967296 := rfl; omega) (by decide)
    have ok4 := setRt_ok ok3 14 x (by have : 256 ^ fldW 14 = 4294967296 := rfl; omega)
    have s4 := s3.root ok3 14 x (by have : 256 ^ fldW 14 = 4294967296 := rfl; omega) (by decide)
    exact s4.root ok4 15 1 (by decide) (by decide)
  · rw [if_neg h0]
    have hh : R.headD 0 ∈ R := by
      cases R with
      | nil => exact absurd rfl h0
      | cons a T => exact List.mem_cons_self ..
    obtain ⟨np, lvp⟩ := hL _ (h.sub _ (h.nbr hh).2)
    obtain ⟨nh, lvh⟩ := hL _ (h.sub _ hh)
    have ok1 := setB_ok ok ((E (R.headD 0)).prev + 8) 4 x
    have s1 := hs.rnxt ok lvp x
    have ok2 := setB_ok ok1 (x + 12) 4 (E (R.headD 0)).prev
    have s2 := s1.rprv ok1 lvx (E (R.headD 0)).prev
    have ok3 := setB_ok ok2 (x + 8) 4 (R.headD 0)
    have s3 := s2.rnxt ok2 lvx (R.headD 0)
    have ok4 := setB_ok ok3 (R.headD 0 + 12) 4 x
    have s4 := s3.rprv ok3 lvh x
    exact s4.root ok4 15 _ (by have : 256 ^ fldW 15 = 4294967296 := rfl; omega) (by decide)
theorem SlI.rem (hs : SlI t S) (h : RgI t L E R b) (hL : ∀ y, L y → ∃ m, Lv t.a S y m) (hx : x ∈ R) (k : Nat) (hk : k ≤ R.length) : SlI (t.rem x (E x).next (E x).prev (if (E x).next = x then 0 else (E x).next) k) S := by
  have hl := h.len
  have ok := h.ents.ok
  have hn := h.sub _ (h.nbr hx).1
  have hp := h.sub _ (h.nbr hx).2
  have hxL := h.sub x hx
  have ln := h.lt4 hn
  obtain ⟨n1, lvx⟩ := hL x hxL
  obtain ⟨n2, lvn⟩ := hL _ hn
  obtain ⟨n3, lvp⟩ := hL _ hp
  have hto : (if (E x).next = x then 0 else (E x).next) < 4294967296 := by split <;> omega
  have ok0 := (Nbr.refl (L := L) ok).rnm x _ hto
  have s0 := hs.rnm ok x _ hto
  generalize hg : t.rnm x (if (E x).next = x then 0 else (E x).next) = r at *
  have ea : r.a = t.a := ok0.a
  rw [← ea] at lvx lvn lvp
  have ok1 := setB_ok ok0.ok ((E x).prev + 8) 4 (E x).next
  have s1 := s0.rnxt ok0.ok lvp (E x).next
  have ok2 := setB_ok ok1 ((E x).next + 12) 4 (E x).prev
  have s2 := s1.rprv ok1 lvn (E x).prev
  have ok3 := setB_ok ok2 (x + 8) 4 0
  have s3 := s2.rnxt ok2 lvx 0
  have ok4 := setB_ok ok3 (x + 12) 4 0
  have s4 := s3.rprv ok3 lvx 0
  have s5 := s4.root ok4 15 k (by have : 256 ^ fldW 15 = 4294967296 := rfl; omega) (by decide)
  unfold TM.rem
  rw [hg]
  exact s5
/-- Two memories with the same ring, that are the same but for links, are the same byte by byte. -/
theorem RgI.bytes (h : RgI t L E R b) (k : RgI u L E' R b) (n : Nbr t u L) : u.bytes = t.bytes := by
  have hlk : ∀ x, L x → (E' x).next = (E x).next ∧ (E' x).prev = (E x).prev := fun x hx => by
    by_cases hm : x ∈ R
    · obtain ⟨A, B, rfl⟩ := List.append_of_mem hm
      have c1 := cyc_nx h.cyc
      have c2 := cyc_nx k.cyc
      exact ⟨c2.1.trans c1.1.symm, c2.2.trans c1.2.symm⟩
    · have c1 := h.out x hx hm
      have c2 := k.out x hx hm
      exact ⟨c2.1.trans c1.1.symm, c2.2.trans c1.2.symm⟩
  have hrt : u.rt = t.rt := by
    funext f
    by_cases hf : f < 13 ∨ 15 < f
    · exact n.rt f hf
    · have : f = 13 ∨ f = 14 ∨ f = 15 := by omega
      rcases this with rfl | rfl | rfl
      · exact k.hand.trans h.hand.symm
      · exact k.broom.trans h.broom.symm
      · exact k.cnt.trans h.cnt.symm
  have key : ∀ i, byteAt u i = byteAt t i := fun i => by
    by_cases hi : i < lbase t.a t.s
    · exact byteAt_low t u n.a n.s hrt n.hd n.sl i hi h.ents.ok
    · by_cases hq : ∃ x, L x ∧ x + 8 ≤ i ∧ i < x + 16
      · obtain ⟨x, hx, h1, h2⟩ := hq
        have e1 := (h.ents.e x hx).h.byte
        have e2 := (k.ents.e x hx).h.byte
        obtain ⟨q1, q2⟩ := hlk x hx
        by_cases h3 : i < x + 12
        · have a1 := e1 5 (by decide) (by decide) (i - (x + 8)) (by show _ < 4; omega)
          have a2 := e2 5 (by decide) (by decide) (i - (x + 8)) (by show _ < 4; omega)
          have ei : x + (wh 1 5).1 + (i - (x + 8)) = i := by show x + 8 + (i - (x + 8)) = i; omega
          rw [ei] at a1 a2
          rw [a1, a2]
          show nb (E' x).next _ = nb (E x).next _
          rw [q1]
        · have a1 := e1 6 (by decide) (by decide) (i - (x + 12)) (by show _ < 4; omega)
          have a2 := e2 6 (by decide) (by decide) (i - (x + 12)) (by show _ < 4; omega)
          have ei : x + (wh 1 6).1 + (i - (x + 12)) = i := by show x + 12 + (i - (x + 12)) = i; omega
          rw [ei] at a1 a2
          rw [a1, a2]
          show nb (E' x).prev _ = nb (E x).prev _
          rw [q2]
      · exact n.by_ i (fun x hx => by
          by_cases c : i < x + 8
          · exact .inl c
          · exact .inr (by
              by_cases c2 : x + 16 ≤ i
              · exact c2
              · exact absurd ⟨x, hx, by omega, by omega⟩ hq)) (by omega)
  unfold TM.bytes
  rw [n.a, n.s]
  exact List.map_congr_left (fun i _ => key i)
end
end Go.Proofs.YtkapkbiccppldaaGreatDoor

/- Package ring: the iterator over a ring's entries; All. -/
namespace Go.Proofs.YtkapkbiccppldaaGreatDoor
set_option linter.unusedVariables false
set_option linter.unusedSimpArgs false
open Go.RowKit Go.Shelf
attribute [local go_sem] Oper.semAt_some

/-- What the iterator must find at each step: the memory, its variable. -/
structure RinM (W : World) (q : MH) (t : TM) (Bm : Nat) : Prop where
  m : IsH W q t
  bm : Blk W Bm 26 #[.pointer (some ⟨q.m, 0, none⟩)]
def RinS (q : MH) (t : TM) (A B : World) : Prop := Fr q.blocks A B ∧ IsH B q t
theorem headD_app (x : Nat) (l pre : List Nat) : (l ++ pre).headD x = (l ++ (pre ++ [x])).headD 0 := by
  cases l with
  | nil => cases pre with
    | nil => rfl
    | cons a p => rfl
  | cons a l => rfl

set_option maxRecDepth 100000 in
set_option maxHeartbeats 2000000 in
theorem reach1 (n : Nat) (hn : 1 ≤ n) (q : MH) (t : TM) (Bm : Nat) {L : Nat → Prop} {E : Nat → HB} {R : List Nat} {b : Nat} (g : RgI t L E R b) (hBm : Bm ∉ q.blocks) :
    RngIt (α := Nat) Fence.wide n Tryz.prog 217 #[.pointer (some ⟨Bm, 0, none⟩)] (fun x => #[.int .i64 x]) (fun W => RinM W q t Bm) (RinS q t) (fun pre x => ∃ rest, R = pre ++ x :: rest) (fun xs => xs = R) (fun _ => True) := by
  intro lo J Jx W hJM hJS hXS hY h0
  have hM0 := hJM _ _ h0
  refine callsIn_of_wp Tryz.func217 rfl trivial ?_ rfl
  simp only [Tryz.ntmps217, List.size_toArray, List.length_cons, List.length_nil, Nat.reduceAdd, Nat.reduceSub, Array.replicate_succ, Array.replicate_zero, List.push_toArray, List.append_toArray, List.nil_append, List.cons_append]
  have c1 := hM0.bm.cell 0
  simp at c1
  have hha := fun W hW => gHand (w := W) (q := q) (t := t) hW
  have hle := fun W hW => rlen (w := W) (q := q) (t := t) hW
  rw [g.hand] at hha
  generalize hh0 : R.headD 0 = z0 at hha
  have HH0 := Lib.hid hh0
  rw [g.cnt] at hle
  have HHA := Lib.hid hha
  have HLE := Lib.hid hle
  have hll := g.len
  have HNX := Lib.hid (fun W (hW : IsH W q t) x (hx : x ∈ R) => gnext hW g.ents (g.sub x hx))
  have HCY := Lib.hid g.cyc
  have HJM := Lib.hid hJM
  have HJS := Lib.hid hJS
  have HY := Lib.hid hY
  have H0 := Lib.hid h0
  have HM0 := Lib.hid hM0
  clear hJM hJS hXS hY g h0 hM0 hha hle hh0
  gi_wp2_with (first | (refine ⟨trivial, ?_⟩; gi_at_call 65; refine (callsIn_wide.2 (HHA.out _ HM0.out.m)).mono ?_; rintro e W1 ⟨rfl, h1, f1⟩; have hJ1 := HJS.out _ _ _ H0.out ⟨f1, h1⟩; have hM1 := HJM.out _ _ hJ1; have c2 := hM1.bm.cell 0; simp at c2; have HJ1 := Lib.hid hJ1; have HM1 := Lib.hid hM1; clear h1 f1 hJ1 hM1) | (refine ⟨trivial, ?_⟩; gi_at_call 68; refine (callsIn_wide.2 (HLE.out _ HM1.out.m)).mono ?_; rintro e W2 ⟨rfl, h2, f2⟩) | fail)
  have HJ2 := Lib.hid (HJS.out _ _ _ HJ1.out ⟨f2, h2⟩)
  clear h2 f2 c1 c2 HJ1 H0
  gi_loopw [3, 8] (fun u v wr => ∃ pre rest, R = pre ++ rest ∧ (∃ z : Nat, Hid ((rest ++ pre).headD 0 = z) ∧ u = .int .i64 z) ∧ v = .int .i64 pre.length ∧ Hid (J pre wr)) (fun _ v _ => R.length - (intOf v).toNat)
  case atStart => exact ⟨[], R, rfl, ⟨z0, Lib.hid (by rw [List.append_nil]; exact HH0.out), rfl⟩, rfl, HJ2⟩
  case round =>
    clear HJ2 HM1 HM0
    obtain ⟨pre, rest, hpr, ⟨z, hz, rfl⟩, rfl, hJ⟩ := hrel
    have hM := HJM.out _ _ hJ.out
    have c1 := hM.bm.cell 0
    simp at c1
    have hlr : R.length = pre.length + rest.length := by rw [hpr, List.length_append]
    rcases rest with _ | ⟨x, rest⟩
    · have b1 : decide ((pre.length : Int) < R.length) = false := by simp; rw [hlr]; simp
      have b1' : decide (pre.length < R.length) = false := by simp; rw [hlr]; simp
      have HPR := Lib.hid hpr
      have HB := Lib.hid hlr
      generalize R.length = n at *
      clear hpr hM hlr hll
      gi_wp2
      all_goals
        try refine ⟨fun f h => (by cases h), ?_⟩
        gi_wp2
        go_end0
        exact ⟨⟨_, rfl⟩, .inl ⟨_, by rw [HPR.out, List.append_nil], hJ.out⟩⟩
    · have b1 : decide ((pre.length : Int) < R.length) = true := by simp; rw [hlr]; simp
      have b1' : decide (pre.length < R.length) = true := by simp; rw [hlr]; simp
      have hxR : x ∈ R := by rw [hpr]; exact List.mem_append.2 (.inr (List.mem_cons_self ..))
      obtain rfl : x = z := hz.out
      clear hz
      obtain ⟨fn, tmps, assign, body, hy, hR⟩ := HY.out pre x wr ⟨rest, hpr⟩ hJ.out
      have hnx := HNX.out
      have hcy := HCY.out
      rw [hpr] at hcy
      have en := (cyc_nx hcy).1
      rw [headD_app x rest pre] at en
      generalize hz1 : (rest ++ (pre ++ [x])).headD 0 = z1 at en
      have HZ1 := Lib.hid hz1
      have HN := Lib.hid (fun W (hW : IsH W q t) => (show Calls Tryz.prog 127 #[.pointer (some ⟨q.m, 0, none⟩), .int .i64 x] W fun e w' => e = .returned (.int .i64 z1) ∧ IsH w' q t ∧ Fr q.blocks W w' from by
        have := HNX.out W hW x hxR
        rw [en] at this
        exact this))
      have HPR := Lib.hid hpr
      have hw1 : IntKind.i64.wrap ((pre.length : Int) + 1) = (pre.length : Int) + 1 := IntWalk.i64_in _ (by omega)
      have HLR := Lib.hid hlr
      generalize hRn : R.length = RN at *
      have HRN := Lib.hid hRn
      clear hpr hcy en hlr hll hRn hnx hM hz1
      gi_wp2
      refine hR.mono ?_
      rintro e W3 (⟨rfl, hJ3⟩ | ⟨rfl, hJx3⟩)
      · have hM3 := HJM.out _ _ hJ3
        have c3 := hM3.bm.cell 0
        simp at c3
        have HM3 := Lib.hid hM3
        have HJ3 := Lib.hid hJ3
        clear hM3 hJ3 c1
        gi_wp2_with (first | (refine ⟨trivial, ?_⟩; gi_at_call 127; refine (callsIn_wide.2 (HN.out _ HM3.out.m)).mono ?_; rintro e W4 ⟨rfl, h4, f4⟩) | fail)
        refine ⟨⟨pre ++ [x], rest, by rw [HPR.out]; simp, ⟨z1, HZ1, rfl⟩, ?_, Lib.hid (HJS.out _ _ _ HJ3.out ⟨f4, h4⟩)⟩, ?_⟩
        · simp
        · have := HLR.out
          simp [intOf] at this ⊢
          omega
      · gi_wp2
        refine bodyPost_ret (results_none rfl _ _ _) rfl ?_
        exact ⟨⟨_, rfl⟩, .inr ⟨_, trivial, hJx3⟩⟩
end Go.Proofs.YtkapkbiccppldaaGreatDoor

/- The memory of the ring's page: all live blocks are entries. What its calls do. -/
namespace Go.Proofs.YtkapkbiccppldaaGreatDoor
set_option linter.unusedVariables false
set_option linter.unusedSimpArgs false
open Go.RowKit

structure GU (w0 : World) (q : MH) (S : SS) (R : List Nat) (b : Nat) (u : TM) (E : Nat → HB) (W : World) : Prop where
  h : IsH W q u
  sl : SlI u S
  rg : RgI u (LvP S) E R b
  a : u.a = 7
  s : u.s = 224
  f : Fr [] w0 W
  hq : ∀ k ∈ q.blocks, w0.heap.size ≤ k
def GX (w0 : World) (q : MH) (S : SS) (R : List Nat) (b : Nat) (ft : Int) (W : World) : Prop := ∃ u E, GU w0 q S R b u E W ∧ u.ft = ft
section
variable {w0 W W' : World} {q : MH} {S : SS} {R : List Nat} {b x n : Nat} {u v : TM} {E E' : Nat → HB} {ft : Int}
theorem GU.lvs (g : GU w0 q S R b u E W) : ∀ y, LvP S y → ∃ m, Lv u.a S y m := fun y ⟨m, hm⟩ => ⟨m, by rw [g.a]; exact hm⟩
theorem GU.fr0 (g : GU w0 q S R b u E W) (hf : Fr [] W W') : GU w0 q S R b u E W' := ⟨g.h.fr0 hf, g.sl, g.rg, g.a, g.s, g.f.trans hf, g.hq⟩
theorem GX.fr0 (g : GX w0 q S R b ft W) (hf : Fr [] W W') : GX w0 q S R b ft W' := by
  obtain ⟨u, E, h, e⟩ := g
  exact ⟨u, E, h.fr0 hf, e⟩
theorem GX.f (g : GX w0 q S R b ft W) : Fr [] w0 W := by
  obtain ⟨u, E, h, e⟩ := g
  exact h.f
theorem GX.hq (g : GX w0 q S R b ft W) : ∀ k ∈ q.blocks, w0.heap.size ≤ k := by
  obtain ⟨u, E, h, e⟩ := g
  exact h.hq
theorem GX.len (g : GX w0 q S R b ft W) : R.length ≤ 1048576 := by
  obtain ⟨u, E, h, e⟩ := g
  exact h.rg.len
theorem GX.nd (g : GX w0 q S R b ft W) : R.Nodup := by
  obtain ⟨u, E, h, e⟩ := g
  exact h.rg.nd
theorem GX.pos (g : GX w0 q S R b ft W) {y : Nat} (hy : y ∈ R) : 0 < y ∧ y < 1048576 := by
  obtain ⟨u, E, h, e⟩ := g
  exact ⟨Nat.pos_of_ne_zero (h.rg.ne0 (h.rg.sub y hy)), h.rg.lt4 (h.rg.sub y hy)⟩
theorem GU.go (g : GU w0 q S R b u E W) (hf : Fr q.blocks W W') (h : IsH W' q v) (hs : SlI v S) {R' : List Nat} {b' : Nat} (hr : RgI v (LvP S) E' R' b') (ha : v.a = u.a) (hss : v.s = u.s) : GU w0 q S R' b' v E' W' :=
  ⟨h, hs, hr, ha.trans g.a, hss.trans g.s, g.f.step hf (fun k hk => .inr (g.hq k hk)), g.hq⟩
theorem u_ins (g : GU w0 q S R b u E W) (hx : LvP S x) (hn : x ∉ R) : Calls Tryz.prog 42 #[.pointer (some ⟨q.m, 0, none⟩), .int .i64 x] W fun e w' => e = .returned (.int .i64 0) ∧ GU w0 q S (R ++ [x]) (insB R b x) (insT u E R x) (insH E R x) w' ∧ Fr q.blocks W w' := by
  have hc : Calls Tryz.prog 42 #[.pointer (some ⟨q.m, 0, none⟩), .int .i64 x] W fun e w' => e = .returned (.int .i64 0) ∧ IsH w' q (insT u E R x) ∧ Fr q.blocks W w' := by
    by_cases h0 : R = []
    · have := g.rg
      rw [h0] at this
      have := gins_0 g.h this hx
      unfold insT
      rw [if_pos h0]
      exact this
    · have := gins_1 g.h g.rg h0 hx hn
      unfold insT
      rw [if_neg h0]
      exact this
  have n := g.rg.nbrIns hx
  have r := g.rg.insAny hx hn
  have s := g.sl.ins g.rg g.lvs hx
  exact hc.mono fun e w' ⟨he, h1, h2⟩ => ⟨he, g.go h2 h1 s r n.a n.s, h2⟩
theorem x_ins (g : GX w0 q S R b ft W) (hx : LvP S x) (hn : x ∉ R) : Calls Tryz.prog 42 #[.pointer (some ⟨q.m, 0, none⟩), .int .i64 x] W fun e w' => e = .returned (.int .i64 0) ∧ GX w0 q S (R ++ [x]) (insB R b x) ft w' ∧ Fr q.blocks W w' := by
  obtain ⟨u, E, h, e⟩ := g
  exact (u_ins h hx hn).mono fun e' w' ⟨he, h1, h2⟩ => ⟨he, ⟨_, _, h1, (h.rg.nbrIns hx).ft.trans e⟩, h2⟩
theorem x_insSt (g : GX w0 q S R b ft W) (hx : x ∈ R) : Calls Tryz.prog 42 #[.pointer (some ⟨q.m, 0, none⟩), .int .i64 x] W fun e w' => e = .returned (.int .i64 8) ∧ GX w0 q S R b ft w' ∧ Fr q.blocks W w' := by
  obtain ⟨u, E, h, e⟩ := g
  exact (gins_st h.h h.rg (h.rg.sub x hx) hx).mono fun e' w' ⟨he, h1, h2⟩ => ⟨he, ⟨_, _, h.go h2 h1 h.sl h.rg rfl rfl, e⟩, h2⟩
def remB (A B : List Nat) (b x : Nat) : Nat := if b = x then (B ++ A).headD 0 else b
theorem u_rem {A B : List Nat} (g : GU w0 q S (A ++ x :: B) b u E W) : Calls Tryz.prog 47 #[.pointer (some ⟨q.m, 0, none⟩), .int .i64 x] W fun e w' => e = .returned (.int .i64 0) ∧
    GU w0 q S (A ++ B) (remB A B b x) (u.rem x (E x).next (E x).prev (if (E x).next = x then 0 else (E x).next) (A ++ B).length) (alE (jnE E (E x).prev (E x).next) x) w' ∧ Fr q.blocks W w' := by
  have hx : x ∈ A ++ x :: B := List.mem_append.2 (.inr (List.mem_cons_self ..))
  have hl2 : (A ++ x :: B).length = (A ++ B).length + 1 := by rw [List.length_append, List.length_append, List.length_cons]; omega
  have hl := g.rg.len
  have hnR := g.rg.nbr hx
  have hnL := g.rg.sub _ hnR.1
  have hpL := g.rg.sub _ hnR.2
  have hk : u.rt 15 = (A ++ B).length + 1 := by rw [g.rg.cnt, hl2]
  have hc : Calls Tryz.prog 47 #[.pointer (some ⟨q.m, 0, none⟩), .int .i64 x] W fun e w' => e = .returned (.int .i64 0) ∧ IsH w' q (u.rem x (E x).next (E x).prev (if (E x).next = x then 0 else (E x).next) (A ++ B).length) ∧ Fr q.blocks W w' := by
    by_cases h0 : (E x).next = x
    · rw [if_pos h0]
      exact grem_1 g.h g.rg.ents (g.rg.sub x hx) rfl rfl hnL hpL (g.rg.ne0 hnL) h0 _ hk (by omega)
    · rw [if_neg h0]
      exact grem_2 g.h g.rg.ents (g.rg.sub x hx) rfl rfl hnL hpL (g.rg.ne0 hnL) h0 _ hk (by omega)
  have n := g.rg.nbrRem hx (A ++ B).length (by omega)
  have s := g.sl.rem g.rg g.lvs hx (A ++ B).length (by omega)
  exact hc.mono fun e w' ⟨he, h1, h2⟩ => ⟨he, g.go h2 h1 s g.rg.rem n.a n.s, h2⟩
theorem x_rem {A B : List Nat} (g : GX w0 q S (A ++ x :: B) b ft W) : Calls Tryz.prog 47 #[.pointer (some ⟨q.m, 0, none⟩), .int .i64 x] W fun e w' => e = .returned (.int .i64 0) ∧ GX w0 q S (A ++ B) (remB A B b x) ft w' ∧ Fr q.blocks W w' := by
  obtain ⟨u, E, h, e⟩ := g
  have hx : x ∈ A ++ x :: B := List.mem_append.2 (.inr (List.mem_cons_self ..))
  have hl2 : (A ++ x :: B).length = (A ++ B).length + 1 := by rw [List.length_append, List.length_append, List.length_cons]; omega
  exact (u_rem h).mono fun e' w' ⟨he, h1, h2⟩ => ⟨he, ⟨_, _, h1, (h.rg.nbrRem hx (A ++ B).length (by omega)).ft.trans e⟩, h2⟩
theorem x_remNo (g : GX w0 q S R b ft W) (hx : LvP S x) (hn : x ∉ R) : Calls Tryz.prog 47 #[.pointer (some ⟨q.m, 0, none⟩), .int .i64 x] W fun e w' => e = .returned (.int .i64 7) ∧ GX w0 q S R b ft w' ∧ Fr q.blocks W w' := by
  obtain ⟨u, E, h, e⟩ := g
  exact (grem_no h.h h.rg hx hn).mono fun e' w' ⟨he, h1, h2⟩ => ⟨he, ⟨_, _, h.go h2 h1 h.sl h.rg rfl rfl, e⟩, h2⟩
/-- What is inserted and removed again leaves all as it was, byte by byte. -/
theorem u_back (g : GU w0 q S R b u E W) (hx : LvP S x) (hn : x ∉ R) : Calls Tryz.prog 42 #[.pointer (some ⟨q.m, 0, none⟩), .int .i64 x] W fun e w' => e = .returned (.int .i64 0) ∧ GX w0 q S (R ++ [x]) (insB R b x) u.ft w' ∧ Fr q.blocks W w' ∧
    ∀ V, GU w0 q S (R ++ [x]) (insB R b x) (insT u E R x) (insH E R x) V → Calls Tryz.prog 47 #[.pointer (some ⟨q.m, 0, none⟩), .int .i64 x] V fun e V' => e = .returned (.int .i64 0) ∧ Fr q.blocks V V' ∧ ∃ u' E', GU w0 q S R b u' E' V' ∧ u'.bytes = u.bytes := by
  refine (u_ins g hx hn).mono fun e w' ⟨he, h1, h2⟩ => ⟨he, ⟨_, _, h1, (g.rg.nbrIns hx).ft⟩, h2, fun V hV => ?_⟩
  have hb : remB R [] (insB R b x) x = b := by
    unfold remB insB
    by_cases h0 : R = []
    · rw [if_pos h0, if_pos rfl, h0, g.rg.bnil h0]; rfl
    · rw [if_neg h0, if_neg (fun e : b = x => hn (e ▸ g.rg.bin h0))]
  have n1 := g.rg.nbrIns hx
  have n2 := hV.rg.nbrRem (x := x) (List.mem_append.2 (.inr (List.mem_singleton.2 rfl))) (R ++ []).length (by simp)
  have hc := u_rem (A := R) (B := []) hV
  rw [hb] at hc
  refine hc.mono fun e V' ⟨he, k1, k2⟩ => ⟨he, k2, _, _, by rw [List.append_nil] at k1; exact k1, ?_⟩
  have k3 := k1.rg
  rw [List.append_nil] at k3
  have n3 := n1.trans n2
  rw [List.append_nil] at n3
  exact g.rg.bytes k3 n3
theorem x_turn0 (g : GX w0 q S [] b ft W) : Calls Tryz.prog 43 #[.pointer (some ⟨q.m, 0, none⟩)] W fun e w' => e = .returned (.int .i64 0) ∧ GX w0 q S [] b ft w' ∧ Fr q.blocks W w' := by
  obtain ⟨u, E, h, e⟩ := g
  exact (gTurn_0 h.h h.rg.hand).mono fun e' w' ⟨he, h1, h2⟩ => ⟨he, ⟨_, _, h.go h2 h1 h.sl h.rg rfl rfl, e⟩, h2⟩
theorem x_turn1 {a : Nat} {T : List Nat} (g : GX w0 q S (a :: T) b ft W) : Calls Tryz.prog 43 #[.pointer (some ⟨q.m, 0, none⟩)] W fun e w' => e = .returned (.int .i64 a) ∧ GX w0 q S (T ++ [a]) b ft w' ∧ Fr q.blocks W w' := by
  obtain ⟨u, E, h, e⟩ := g
  have ha := h.rg.sub a (List.mem_cons_self ..)
  have ln := h.rg.lt4 (h.rg.sub _ (h.rg.nbr (List.mem_cons_self (a := a) (l := T))).1)
  exact (gTurn_1 h.h h.rg.ents ha h.rg.hand).mono fun e' w' ⟨he, h1, h2⟩ => ⟨he, ⟨_, _, h.go h2 h1 (h.sl.root h.rg.ents.ok 13 _ (by have : 256 ^ fldW 13 = 4294967296 := rfl; omega) (by decide)) h.rg.turn rfl rfl, e⟩, h2⟩
theorem x_brush0 (g : GX w0 q S [] b ft W) : Calls Tryz.prog 45 #[.pointer (some ⟨q.m, 0, none⟩)] W fun e w' => e = .returned (.int .i64 0) ∧ GX w0 q S [] b ft w' ∧ Fr q.blocks W w' := by
  obtain ⟨u, E, h, e⟩ := g
  exact (gBrush_0 h.h (h.rg.broom.trans (h.rg.bnil rfl))).mono fun e' w' ⟨he, h1, h2⟩ => ⟨he, ⟨_, _, h.go h2 h1 h.sl h.rg rfl rfl, e⟩, h2⟩
theorem x_brush1 {A B : List Nat} (g : GX w0 q S (A ++ b :: B) b ft W) : Calls Tryz.prog 45 #[.pointer (some ⟨q.m, 0, none⟩)] W fun e w' => e = .returned (.int .i64 b) ∧ GX w0 q S (A ++ b :: B) ((B ++ A).headD b) ft w' ∧ Fr q.blocks W w' := by
  obtain ⟨u, E, h, e⟩ := g
  have hb : b ∈ A ++ b :: B := List.mem_append.2 (.inr (List.mem_cons_self ..))
  have ln := h.rg.lt4 (h.rg.sub _ (h.rg.nbr hb).1)
  have hr := h.rg.brush (fun e => nomatch (List.append_eq_nil_iff.1 e).2)
  have hn := (cyc_nx h.rg.cyc).1
  have hr2 : RgI (u.setRt 14 (E b).next) (LvP S) E (A ++ b :: B) ((B ++ A).headD b) := hn ▸ hr
  exact (gBrush_1 h.h h.rg.ents (h.rg.sub b hb) h.rg.broom).mono fun e' w' ⟨he, h1, h2⟩ => ⟨he, ⟨u.setRt 14 (E b).next, E, h.go h2 h1 (h.sl.root h.rg.ents.ok 14 _ (by have : 256 ^ fldW 14 = 4294967296 := rfl; omega) (by decide)) hr2 rfl rfl, e⟩, h2⟩
theorem x_hand (g : GX w0 q S R b ft W) : Calls Tryz.prog 65 #[.pointer (some ⟨q.m, 0, none⟩)] W fun e w' => e = .returned (.int .i64 (R.headD 0 : Nat)) ∧ GX w0 q S R b ft w' ∧ Fr q.blocks W w' := by
  obtain ⟨u, E, h, e⟩ := g
  exact (gHand h.h).mono fun e' w' ⟨he, h1, h2⟩ => ⟨by rw [he, h.rg.hand], ⟨_, _, h.go h2 h1 h.sl h.rg rfl rfl, e⟩, h2⟩
theorem x_broom (g : GX w0 q S R b ft W) : Calls Tryz.prog 67 #[.pointer (some ⟨q.m, 0, none⟩)] W fun e w' => e = .returned (.int .i64 b) ∧ GX w0 q S R b ft w' ∧ Fr q.blocks W w' := by
  obtain ⟨u, E, h, e⟩ := g
  exact (gBroom h.h).mono fun e' w' ⟨he, h1, h2⟩ => ⟨by rw [he, h.rg.broom], ⟨_, _, h.go h2 h1 h.sl h.rg rfl rfl, e⟩, h2⟩
theorem x_len (g : GX w0 q S R b ft W) : Calls Tryz.prog 68 #[.pointer (some ⟨q.m, 0, none⟩)] W fun e w' => e = .returned (.int .i64 R.length) ∧ GX w0 q S R b ft w' ∧ Fr q.blocks W w' := by
  obtain ⟨u, E, h, e⟩ := g
  exact (rlen h.h).mono fun e' w' ⟨he, h1, h2⟩ => ⟨by rw [he, h.rg.cnt], ⟨_, _, h.go h2 h1 h.sl h.rg rfl rfl, e⟩, h2⟩
theorem x_flt (g : GX w0 q S R b ft W) : Calls Tryz.prog 26 #[.pointer (some ⟨q.m, 0, none⟩)] W fun e w' => e = .returned (.int .i64 ft) ∧ GX w0 q S R b ft w' ∧ Fr [] W w' := by
  obtain ⟨u, E, h, e⟩ := g
  have := tfaults h.h.m
  rw [e] at this
  exact this.mono fun e' w' ⟨he, h1⟩ => ⟨he, ⟨_, _, h.fr0 h1, e⟩, h1⟩
theorem u_image (g : GU w0 q S R b u E W) : Calls Tryz.prog 27 #[.pointer (some ⟨q.m, 0, none⟩)] W fun e w' => ∃ g cap, e = .returned (.slice (some ⟨g, 0, none⟩) u.bytes.length cap) ∧ W.heap.size ≤ g ∧ RowB w' g cap u.bytes ∧ Fr [] W w' :=
  (mimage W q u.ms g.h.m.m).mono fun e w' ⟨v, he, g, cap, hv, k1, k2, k3⟩ => ⟨g, cap, by rw [he, hv]; rfl, k1, k2, k3⟩
/-- A block is given back. -/
theorem x_give (g : GX w0 q S R b ft W) (hx : LvP S x) (hn : x ∉ R) : Calls Tryz.prog 25 #[.pointer (some ⟨q.m, 0, none⟩), .int .i64 x] W fun e w' => e = .returned (.int .i64 0) ∧ Fr q.blocks W w' ∧ ∃ S', GX w0 q S' R b ft w' ∧ ∀ y, LvP S' y ↔ LvP S y ∧ y ≠ x := by
  obtain ⟨u, E, h, e⟩ := g
  obtain ⟨n, lv⟩ := h.lvs x hx
  obtain ⟨S', e1, e2⟩ := give_plain' h.sl h.h.m.ok lv
  have hc := sgive h.h h.sl x
  rw [e1] at hc
  have hl : ∀ y, LvP S' y ↔ LvP S y ∧ y ≠ x := fun y => by
    unfold LvP
    rw [h.a] at e2
    exact ⟨fun ⟨m, hm⟩ => ⟨⟨m, ((e2 y m).1 hm).1⟩, ((e2 y m).1 hm).2⟩, fun ⟨⟨m, hm⟩, hne⟩ => ⟨m, (e2 y m).2 ⟨hm, hne⟩⟩⟩
  refine hc.mono fun e' w' ⟨he, v, k1, k2, k3, k4, k5⟩ => ⟨he, k5, S', ⟨v, E, ⟨k1, k2, ?_, k3.a.trans h.a, k3.s.trans h.s, h.f.step k5 (fun k hk => .inr (h.hq k hk)), h.hq⟩, k3.ft.trans e⟩, hl⟩
  refine h.rg.to k1.m.ok (fun f hf => k3.rt f (.inr hf)) (fun y hy => ?_) (fun y hy => (hl y).2 ⟨h.rg.sub y hy, fun e => hn (e ▸ hy)⟩)
  obtain ⟨hy1, hy2⟩ := (hl y).1 hy
  obtain ⟨m, hm⟩ := hy
  have hm' : Lv v.a S' y m := by rw [k3.a, h.a]; exact hm
  obtain ⟨b1, b2, b3, b4, b5, b6, b7⟩ := lv_at k2 k1.m.ok hm'
  have hm0 : Lv u.a S y m := ((e2 y m).1 (by rw [h.a]; exact hm)).1
  refine ⟨hy1, (h.rg.ents.e y hy1).keep k3.a k3.s (fun g g1 g2 => b7 g g1 (by omega)) (fun k hk => ?_)⟩
  obtain ⟨i, hi, hyi, rfl⟩ := hm0
  exact k4 i hi y hyi (fun _ e => hy2 (by omega)) k (by omega)
end
end Go.Proofs.YtkapkbiccppldaaGreatDoor

/- Package ring: All. -/
namespace Go.Proofs.YtkapkbiccppldaaGreatDoor
set_option linter.unusedVariables false
set_option linter.unusedSimpArgs false
open Go.RowKit Go.Shelf
attribute [local go_sem] Oper.semAt_some

theorem reach_in (n : Nat) (m : Nat) (w : World) :
    CallsIn Fence.wide n Tryz.prog 136 #[.pointer (some ⟨m, 0, none⟩)] w fun e w' => e = .returned (.func (.func 217) #[] #[.pointer (some ⟨w.heap.size, 0, none⟩)]) ∧ w' = w.alloc (.cells #[.pointer (some ⟨m, 0, none⟩)] 26) := by
  refine callsIn_of_wp Tryz.func136 rfl trivial ?_ rfl
  simp only [Tryz.ntmps136, List.size_toArray, List.length_cons, List.length_nil, Nat.reduceAdd, Nat.reduceSub, Array.replicate_succ, Array.replicate_zero, List.push_toArray, List.append_toArray, List.nil_append, List.cons_append]
  gi_wp2
  go_ret
  exact ⟨rfl, rfl⟩
set_option maxRecDepth 100000 in
set_option maxHeartbeats 4000000 in
theorem rall_in (n : Nat) (hn : 4 ≤ n) (w : World) (q : MH) (t : TM) (h : IsH w q t) {L : Nat → Prop} {E : Nat → HB} {l : List Nat} {b : Nat} (g : RgI t L E l b) :
    CallsIn Fence.wide n Tryz.prog 44 #[.pointer (some ⟨q.m, 0, none⟩)] w fun e w' => ∃ v, e = .returned v ∧ w'.ownsRow w.heap.size 3 1 v l.length (intC l) ∧ IsH w' q t ∧ Fr q.blocks w w' := by
  have h1 : 1 ≤ n := by omega
  obtain ⟨i0, hi, hz0, hz1, hz2⟩ := info_parts info_int
  have hll := g.len
  refine callsIn_of_wp_marks Tryz.func44 rfl trivial ?_ rfl
  simp only [Tryz.ntmps44, List.size_toArray, List.length_cons, List.length_nil, Nat.reduceAdd, Nat.reduceSub, Array.replicate_succ, Array.replicate_zero, List.push_toArray, List.append_toArray, List.nil_append, List.cons_append]
  gi_wp2_with (first | (refine ⟨trivial, ?_⟩; gi_at_call 136; refine (reach_in _ _ _).mono ?_; rintro e w' ⟨rfl, rfl⟩) | fail)
  obtain ⟨W0, hW0⟩ : ∃ W0, ((w.alloc (.cells #[.slice none 0 0] 42)).alloc (.cells #[.pointer (some ⟨q.m, 0, none⟩)] 26)) = W0 := ⟨_, rfl⟩
  have bL : Blk W0 w.heap.size 42 #[.slice none 0 0] := by rw [← hW0]; exact (Blk.new w _ _).alloc _
  have bM : Blk W0 (w.heap.size + 1) 26 #[.pointer (some ⟨q.m, 0, none⟩)] := by
    rw [← hW0]
    have := Blk.new (w.alloc (.cells #[.slice none 0 0] 42)) 26 #[.pointer (some ⟨q.m, 0, none⟩)]
    rwa [World.size_alloc] at this
  have fr0 : Fr q.blocks w W0 := by rw [← hW0]; exact ((Fr.refl _ w).alloc _).alloc _
  have hT0 : IsH W0 q t := by rw [← hW0]; exact (h.alloc _).alloc _
  have hz : W0.heap.size = w.heap.size + 2 := by rw [← hW0]; simp
  have hlt := h.m.lt
  have hgx := h.m.tab.size
  have hgy := h.hi
  have hgt := h.tabs.size
  rw [hW0]
  clear hW0 h
  generalize hLL : w.heap.size = Lb at *
  have HLL := Lib.hid hLL
  have hq : ∀ k, Lb ≤ k → k ∉ q.blocks := fun k hk hm => by have := hlt k hm; omega
  have hnb : ∀ k, k < W0.heap.size → k ∉ [W0.heap.size, W0.heap.size + 1] := fun k hk hm => by simp at hm; omega
  have hmem : ∀ k ∈ [W0.heap.size, W0.heap.size + 1], k ∈ q.blocks ∨ w.heap.size ≤ k := fun k hk => by simp at hk; exact .inr (by omega)
  have hEM : ∀ A B S, RinM A q t (Lb + 1) → Fr S A B → (∀ k ∈ S, k = Lb ∨ W0.heap.size ≤ k) → RinM B q t (Lb + 1) := fun A B S hM hf hS =>
    ⟨⟨hM.m.m.fr hf (fun k hk hm => by have := hS k hm; have := hlt k hk; omega) (fun k hk hm => by have := hS k hm; omega), hM.m.tabs.fr hf (fun k hk => by have := hS k hk; omega), hM.m.hi⟩, hM.bm.fr hf (fun hm => by have := hS _ hm; omega)⟩
  refine wpIn_rng rfl h1 (gf := 217) (lb := #[.pointer (some ⟨Lb + 1, 0, none⟩)]) rfl trivial (enters_of Tryz.func217 (by kernel_rfl) rfl)
    (reach1 (n - 1) (by omega) q t (Lb + 1) g (hq _ (by omega))) (fun _ => rfl)
    (fun A B hA hM hs => ⟨hs.1.keep2 hA ⟨hq _ (by omega), hq _ (by omega)⟩, hs.1.size⟩)
    (fun pre W => RinM W q t (Lb + 1) ∧ Fr q.blocks w W ∧ ∃ v, Blk W Lb 42 #[v] ∧ W.ownsRow Lb 3 1 v pre.length (intC pre) ∧ ∀ g, v.ownBlock = some g → W0.heap.size + 1 < g)
    (fun _ _ _ => False)
    (fun s A hh => hh.1) (fun cd s A hh => hh.elim)
    ?hI (fun cd s A B hh _ => hh.elim) ?hIs (fun cd s A B hh _ => hh.elim) ⟨⟨hT0, bM⟩, fr0, _, bL, World.ownsRow_nil _ _ _ _, fun g e => by simp [Value.ownBlock] at e⟩
    (fun y a' W => a' = { tmps := #[.pointer (some ⟨q.m, 0, none⟩), undef, .slice none 0 0, .pointer (some ⟨Lb, 0, none⟩), .int .i64 y, .pointer (some ⟨q.m, 0, none⟩), .func (.func 217) #[] #[.pointer (some ⟨Lb + 1, 0, none⟩)], .int .i64 y, undef, undef, undef, undef, undef], defers := [] })
    (fun y a' A B hh _ => hh) ?assign ?body ?done ?stop
  case hI => exact fun s A B ⟨hM, hF, v, hL, hR, hO⟩ hf => ⟨hEM A B _ hM hf (fun k hk => .inr (by simp at hk; omega)), hF.step hf hmem, v, hL.fr hf (hnb _ (by omega)), own_hi hR hO hf (fun k hk => by simp at hk; omega), hO⟩
  case hIs => exact fun s A B ⟨hM, hF, v, hL, hR, hO⟩ hs => ⟨⟨hs.2, hM.bm.fr hs.1 (hq _ (by omega))⟩, hF.trans hs.1, v, hL.fr hs.1 (hq _ (by omega)), own_hi hR hO hs.1 (fun k hk => by have := hlt k hk; omega), hO⟩
  case assign =>
    rintro lo pre y W K hW hi hK
    gi_wp2
    exact hK _ _ (Keep2.refl _ _) hi rfl
  case body =>
    rintro lo pre y a' W hW ⟨rest, hpr⟩ ⟨hM, hF, v, hL, hR, hO⟩ rfl
    have hc1 := hL.cell 0
    have hf1 := hL.frozen 0
    simp at hc1
    have hpl : pre.length + 1 ≤ 1048576 := by rw [hpr] at hll; simp at hll; omega
    have hbw : Lb ≤ W.heap.size := by have := hF.size; have := HLL.out; omega
    have HL := Lib.hid hL
    have HM := Lib.hid hM
    have HF := Lib.hid hF
    have HO := Lib.hid hO
    clear hL hM hF hO hpr bL bM fr0 hT0
    have HKEY := Lib.hid (fun (o : Oper) (a : Act) (ops : Array Oper) (rest : List Oper) (Q : Exit → Act → World → Prop) (h0 : o.guard = none) (s x : Operand) (h3 : o.op = .call { callee := .builtin .append, args := #[s, x], argTypes := #[42, 42] }) (h4 : a.eval s = v) (h5 : a.eval x = .slice (some ⟨W.heap.size, 0, none⟩) 1 1) =>
      wpListIn_append_own_at (F := Fence.wide.inRound lo) (nF := n - 1 - 1) (P := Tryz.prog) (ops := ops) (rest := rest) (Q := Q) (w := W.alloc (.cells #[.int .i64 y] 3)) h0 s x 42 h3 Lb 3 i0 (.int .i64 0) 1 8 Tryz.underlying42 hi hz0 hz1 hz2 rfl (by decide) v _ _ h4 (hR.alloc _) ⟨W.heap.size, 0, none⟩ 1 1 [.int .i64 y] h5 rfl (cells_new1 _ _ _) (by simp [Value.oneCell']) (by unfold maxLen; omega) (by omega) (by simp; omega))
    clear hi
    gi_wp2_with (gi_at_builtin; refine HKEY.out _ _ _ _ _ rfl _ _ rfl rfl rfl ?_; intro v' w1 hown' hgrow _ hob; obtain ⟨g', cap', rfl⟩ := ownsRow_succ hown'; have hfg := fr_grown hgrow; have hL1 := HL.out.fr hfg (fun hm => by have := HO.out Lb (ownS_mem hm); omega); have hc1 : w1.cell? ⟨Lb, 0, none⟩ = some v := hL1.cell 0; have hf1 := hL1.frozen 0)
    have hNL : Lb < W0.heap.size := by omega
    have hfW : Fr (Lb :: ownS v) W (w1.setCell ⟨Lb, 0, none⟩ (.slice (some ⟨g', 0, none⟩) (pre.length + 1) cap')) := (hfg.mono (S' := Lb :: ownS v) (fun k hk => .inl (List.mem_cons_of_mem _ hk))).setCell (.inl (by simp)) _
    have hSm : ∀ k ∈ Lb :: ownS v, k = Lb ∨ W0.heap.size + 1 < k := fun k hk => by
      rcases List.mem_cons.1 hk with rfl | hk
      · exact .inl rfl
      · exact .inr (HO.out k (ownS_mem hk))
    refine ⟨hfW.keep2 hW ⟨fun hm => by have := hSm _ hm; omega, fun hm => by have := hSm _ hm; omega⟩, hEM W _ _ HM.out hfW (fun k hk => by have := hSm k hk; omega), HF.out.step hfW (fun k hk => by have := hSm k hk; exact .inr (by omega)), _, by simpa using hL1.set 0 (.slice (some ⟨g', 0, none⟩) (pre.length + 1) cap'), ?_, fun g hg => ?_⟩
    · have := own_set hown' hL1 (by decide) 0 (.slice (some ⟨g', 0, none⟩) (pre.length + 1) cap')
      rw [List.length_append, List.length_singleton]
      have e : intC (pre ++ [y]) = intC pre ++ [.int .i64 y] := by simp [intC]
      rw [e]
      exact this
    · rcases hob with h | h
      · rw [hg] at h; exact HO.out g h.symm
      · rw [hg] at h
        injection h with h
        rw [h, World.size_alloc]
        omega
  case done =>
    rintro D xs W hD hxs ⟨hM, hF, v, hL, hR, hO⟩ hK
    have hc1 := hL.cell 0
    simp at hc1
    gi_wp2
    refine ⟨by simp, .inl ⟨_, _, rfl, run_takeDeferred (w := W) hK, ?_⟩⟩
    have hfp : Fr [D] W (W.putObj D (.deferred none)) := Fr.putObj _ _ (by simp)
    subst hxs
    refine ⟨_, results_tmp rfl _ _ _, v, rfl, (by rw [HLL.out]; exact ownsRow_putObj hR (.deferred none) hK rfl), ⟨hM.m.m.fr hfp (fun k hk hm => ?_) (fun k hk hm => ?_), hM.m.tabs.fr hfp (fun k hk => ?_), hM.m.hi⟩, hF.step hfp (by have := HLL.out; simp; omega)⟩
    · simp at hm; subst hm; exact hq _ (by omega) hk
    · simp at hm; omega
    · simp at hk; omega
  case stop =>
    rintro D cd pre W hD _ hh hK
    exact hh.elim
end Go.Proofs.YtkapkbiccppldaaGreatDoor

/- The ring: one entry lies elsewhere. -/
namespace Go.Proofs.YtkapkbiccppldaaGreatDoor
set_option linter.unusedVariables false
set_option linter.unusedSimpArgs false
open Go.RowKit

section
variable {t u : TM} {L L' : Nat → Prop} {E E' : Nat → HB} {R : List Nat} {b x y : Nat}
/-- The links of a ring in which one has another name. -/
structure MovE (E E' : Nat → HB) (x y : Nat) (R : List Nat) : Prop where
  yn : (E' y).next = if (E x).next = x then y else (E x).next
  yp : (E' y).prev = if (E x).next = x then y else (E x).prev
  n : ∀ z ∈ R, z ≠ x → (E' z).next = if z = (E x).prev then y else (E z).next
  p : ∀ z ∈ R, z ≠ x → (E' z).prev = if z = (E x).next then y else (E z).prev
theorem Cyc.mov {C : List Nat} (h : Cyc E (x :: C)) (hnd : (x :: C).Nodup) (hy : y ∉ x :: C) (m : MovE E E' x y (x :: C)) : Cyc E' (y :: C) := by
  have hx := List.nodup_cons.1 hnd
  have hnx : (E x).next = C.headD x := Seg.nx (l := C) h
  have hpx : (E x).prev = (x :: C).getLast (List.cons_ne_nil _ _) := Seg.pv (l := C) h
  cases C with
  | nil =>
    have e : (E x).next = x := hnx
    exact ⟨by rw [m.yn, if_pos e], by rw [m.yp, if_pos e]⟩
  | cons n C =>
    have e : (E x).next = n := hnx
    have hnx' : n ≠ x := fun e => hx.1 (e ▸ List.mem_cons_self ..)
    have hc : Lnk E x n ∧ Seg E n C x := h
    have hyC : y ∉ C := fun q => hy (List.mem_cons_of_mem _ (List.mem_cons_of_mem _ q))
    have hlast : (E x).prev = (n :: C).getLast (List.cons_ne_nil _ _) := by rw [hpx, List.getLast_cons (List.cons_ne_nil _ _)]
    have s1 := seg_last E hc.2 hx.2 y hyC
    have hsub : ∀ z ∈ n :: C, z ∈ x :: n :: C ∧ z ≠ x := fun z hz => ⟨List.mem_cons_of_mem _ hz, fun e => hx.1 (e ▸ hz)⟩
    refine ⟨⟨by rw [m.yn, if_neg (by rw [e]; exact hnx'), e], ?_⟩, Seg.same s1 (fun z hz => ?_) (fun z hz => ?_)⟩
    · obtain ⟨h1, h2⟩ := hsub n (List.mem_cons_self ..)
      rw [m.p n h1 h2, if_pos e.symm]
    · have hz' : z ∈ n :: C := by
        rcases hz with e | q
        · rw [e]; exact List.mem_cons_self ..
        · exact List.mem_cons_of_mem _ q
      obtain ⟨h1, h2⟩ := hsub z hz'
      rw [m.n z h1 h2, jn_next, hlast]
    · rw [jn_prev]
      by_cases hzy : z = y
      · rw [if_pos hzy, hzy, m.yp, if_neg (by rw [e]; exact hnx'), hlast]
      · rw [if_neg hzy]
        have hz' : z ∈ C := hz.resolve_right hzy
        obtain ⟨h1, h2⟩ := hsub z (List.mem_cons_of_mem _ hz')
        rw [m.p z h1 h2, if_neg]
        rw [e]
        exact fun e => (List.nodup_cons.1 hx.2).1 (e ▸ hz')
theorem MovE.perm {R' : List Nat} (m : MovE E E' x y R) (h : ∀ z ∈ R', z ∈ R) : MovE E E' x y R' := ⟨m.yn, m.yp, fun z hz => m.n z (h z hz), fun z hz => m.p z (h z hz)⟩
/-- One lies elsewhere: the ring is as it was, but for its name. -/
theorem RgI.mov {A B : List Nat} (h : RgI t L E (A ++ x :: B) b) (e : Ents u L' E') (hL : ∀ z, L' z ↔ z = y ∨ (L z ∧ z ≠ x)) (hy : ¬ L y)
    (m : MovE E E' x y (A ++ x :: B)) (hout : ∀ z, L z → z ∉ A ++ x :: B → (E' z).next = (E z).next ∧ (E' z).prev = (E z).prev)
    (h13 : u.rt 13 = if t.rt 13 = x then y else t.rt 13) (h14 : u.rt 14 = if t.rt 14 = x then y else t.rt 14) (h15 : u.rt 15 = t.rt 15) :
    RgI u L' E' (A ++ y :: B) (if b = x then y else b) := by
  have hyR : y ∉ A ++ x :: B := fun q => hy (h.sub y q)
  have hnd' : (x :: (B ++ A)).Nodup := (List.perm_append_comm (l₁ := A) (l₂ := x :: B)).nodup_iff.1 h.nd
  have hxn := List.nodup_cons.1 hnd'
  have hmem : ∀ z, z ∈ x :: (B ++ A) ↔ z ∈ A ++ x :: B := fun z => by
    have := (List.perm_append_comm (l₁ := A) (l₂ := x :: B)).mem_iff (a := z)
    exact this.symm
  have hyC : y ∉ x :: (B ++ A) := fun q => hyR ((hmem y).1 q)
  have hmem2 : ∀ z, z ∈ y :: (B ++ A) ↔ z ∈ A ++ y :: B := fun z => ((List.perm_append_comm (l₁ := A) (l₂ := y :: B)).mem_iff (a := z)).symm
  refine ⟨e, fun z hz => ?_, ?_, ?_, ?_, ?_, fun _ => ?_, fun e => ?_, ?_, fun z hz hn => ?_⟩
  · rw [← hmem2] at hz
    rcases List.mem_cons.1 hz with e | q
    · exact (hL z).2 (.inl e)
    · exact (hL z).2 (.inr ⟨h.sub z ((hmem z).1 (List.mem_cons_of_mem _ q)), fun e => hxn.1 (e ▸ q)⟩)
  · have : (y :: (B ++ A)).Nodup := List.nodup_cons.2 ⟨fun q => hyC (List.mem_cons_of_mem _ q), hxn.2⟩
    exact (List.perm_append_comm (l₁ := A) (l₂ := y :: B)).nodup_iff.2 this
  · rw [h13, h.hand]
    cases A with
    | nil => exact if_pos rfl
    | cons a A =>
      show (if a = x then y else a) = a
      rw [if_neg]
      intro e
      exact hxn.1 (List.mem_append.2 (.inr (e ▸ List.mem_cons_self ..)))
  · rw [h14, h.broom]
  · rw [h15, h.cnt, List.length_append, List.length_append]; rfl
  · rw [← hmem2]
    by_cases hb : b = x
    · rw [if_pos hb]; exact List.mem_cons_self ..
    · rw [if_neg hb]
      have := (hmem b).2 (h.bin (fun e => nomatch (List.append_eq_nil_iff.1 e).2))
      rcases List.mem_cons.1 this with e | q
      · exact absurd e hb
      · exact List.mem_cons_of_mem _ q
  · exact nomatch (List.append_eq_nil_iff.1 e).2
  · rw [cyc_rot]
    have hc := h.cyc
    rw [cyc_rot] at hc
    exact Cyc.mov (C := B ++ A) hc hnd' hyC (m.perm (fun z hz => (hmem z).1 hz))
  · rw [← hmem2] at hn
    rcases (hL z).1 hz with e | ⟨q1, q2⟩
    · exact absurd (e ▸ List.mem_cons_self ..) hn
    · have hn' : z ∉ A ++ x :: B := fun q => by
        rw [← hmem] at q
        rcases List.mem_cons.1 q with e | q
        · exact q2 e
        · exact hn (List.mem_cons_of_mem _ q)
      obtain ⟨o1, o2⟩ := hout z q1 hn'
      rw [o1, o2]
      exact h.out z q1 hn'
end
end Go.Proofs.YtkapkbiccppldaaGreatDoor

/- A new block is taken, and made an entry. -/
namespace Go.Proofs.YtkapkbiccppldaaGreatDoor
set_option linter.unusedVariables false
set_option linter.unusedSimpArgs false
open Go.RowKit

/-- A block is taken that is no entry yet. -/
structure GT (w0 : World) (q : MH) (S S' : SS) (x : Nat) (R : List Nat) (b : Nat) (u : TM) (E : Nat → HB) (W : World) : Prop where
  h : IsH W q u
  sl : SlI u S'
  rg : RgI u (LvP S) E R b
  new : ∃ n, TakeL 7 S S' x n
  a : u.a = 7
  s : u.s = 224
  f : Fr [] w0 W
  hq : ∀ k ∈ q.blocks, w0.heap.size ≤ k
section
variable {w0 W W' : World} {q : MH} {S S' : SS} {R : List Nat} {b x n : Nat} {u v : TM} {E E' : Nat → HB} {ft : Int}
theorem GT.fr0 (g : GT w0 q S S' x R b u E W) (hf : Fr [] W W') : GT w0 q S S' x R b u E W' := ⟨g.h.fr0 hf, g.sl, g.rg, g.new, g.a, g.s, g.f.trans hf, g.hq⟩
theorem RgI.keepAll (h : RgI u (LvP S) E R b) (hs : SlI v S') (hok : v.Ok) (ha : u.a = 7) (ea : v.a = u.a) (es : v.s = u.s) (hr : ∀ f, 12 < f → v.rt f = u.rt f) (ho : ∀ y m, Lv 7 S y m → Lv 7 S' y m) (hk : Keep u v S (fun y => LvP S y)) : RgI v (LvP S) E R b := by
  refine h.to hok hr (fun y hy => ⟨hy, ?_⟩) h.sub
  obtain ⟨m, hm⟩ := hy
  have hm' : Lv v.a S' y m := by rw [ea, ha]; exact ho y m hm
  obtain ⟨b1, b2, b3, b4, b5, b6, b7⟩ := lv_at hs hok hm'
  refine (h.ents.e y ⟨m, hm⟩).keep ea es (fun g g1 g2 => b7 g g1 (by omega)) (fun k hk' => ?_)
  have hy' := hm
  obtain ⟨i, hi, hyi, rfl⟩ := hm
  exact hk i (by rw [ha]; exact hi) y hyi ⟨_, hy'⟩ k (by omega)
/-- Take, both ways. -/
def TkP (w0 : World) (q : MH) (S : SS) (R : List Nat) (b : Nat) (u : TM) (E : Nat → HB) (W : World) (c : Int) (w' : World) : Prop :=
  ((takeS 7 (lbase 7 224) S c).2.1 ≠ 0 ∧ ∃ v, GU w0 q S R b v E w' ∧ v.ft = u.ft) ∨ ((takeS 7 (lbase 7 224) S c).2.1 = 0 ∧ 1 ≤ c ∧ c ≤ 9 ∧ ∃ v, GT w0 q S (takeS 7 (lbase 7 224) S c).2.2 (takeS 7 (lbase 7 224) S c).1 R b v E w' ∧ v.ft = u.ft)
theorem u_take (g : GU w0 q S R b u E W) (c : Int) : Calls Tryz.prog 18 #[.pointer (some ⟨q.m, 0, none⟩), .int .i64 c] W fun e w' => e = .returned (.tuple #[.int .i64 (takeS 7 (lbase 7 224) S c).1, .int .i64 (takeS 7 (lbase 7 224) S c).2.1]) ∧ Fr q.blocks W w' ∧ TkP w0 q S R b u E W c w' := by
  have hc := stake g.h g.sl c
  have hp := take_plain g.sl g.h.m.ok c
  rw [g.a, g.s] at hc hp
  refine hc.mono fun e w' ⟨he, v, k1, k2, k3, k4, k5, k6⟩ => ⟨he, k6, ?_⟩
  have hf : Fr [] w0 w' := g.f.step k6 (fun k hk => .inr (g.hq k hk))
  by_cases h0 : (takeS 7 (lbase 7 224) S c).2.1 = 0
  · obtain ⟨c1, c2, tl⟩ := hp h0
    have ho : ∀ y m, Lv 7 S y m → Lv 7 (takeS 7 (lbase 7 224) S c).2.2 y m := fun y m hm => (tl.old y m hm).1
    exact .inr ⟨h0, c1, c2, v, ⟨k1, k2, g.rg.keepAll k2 k1.m.ok g.a k3.a k3.s (fun f hf => k3.rt f (.inr hf)) ho (fun j hj y hy hL k hk => by
      obtain ⟨m, hm⟩ := hL
      exact k4 j hj y hy (fun _ => (tl.old y m hm).2) k hk), ⟨_, tl⟩, k3.a.trans g.a, k3.s.trans g.s, hf, g.hq⟩, k3.ft⟩
  · have hS := take_none 7 (lbase 7 224) S c h0
    rw [hS] at k2
    exact .inl ⟨h0, v, ⟨k1, k2, g.rg.keepAll k2 k1.m.ok g.a k3.a k3.s (fun f hf => k3.rt f (.inr hf)) (fun _ _ h => h) (fun j hj y hy hL k hk => k4 j hj y hy (fun e => absurd e h0) k hk), k3.a.trans g.a, k3.s.trans g.s, hf, g.hq⟩, k3.ft⟩
theorem GT.lv (g : GT w0 q S S' x R b u E W) : ∃ n, Lv u.a S' x n ∧ 32 ≤ n ∧ LvP S' x ∧ ¬ LvP S x ∧ (∀ y, LvP S' y ↔ y = x ∨ LvP S y) ∧ ∀ y, LvP S y → x + 32 ≤ y ∨ y + 32 ≤ x := by
  obtain ⟨n, tl⟩ := g.new
  have h1 : Lv u.a S' x n := by rw [g.a]; exact tl.new
  obtain ⟨b1, b2, b3, b4, b5, b6, b7⟩ := lv_at g.sl g.h.m.ok h1
  refine ⟨n, h1, b4, ⟨n, tl.new⟩, fun ⟨m, hm⟩ => (tl.old x m hm).2 rfl, fun y => ⟨fun ⟨m, hm⟩ => (tl.all y m hm).imp id (fun h => ⟨m, h⟩), fun h => ?_⟩, fun y ⟨m, hm⟩ => ?_⟩
  · rcases h with e | ⟨m, hm⟩
    · rw [e]; exact ⟨n, tl.new⟩
    · exact ⟨m, (tl.old y m hm).1⟩
  · obtain ⟨o1, o2⟩ := tl.old y m hm
    have hy : Lv u.a S' y m := by rw [g.a]; exact o1
    have := (lv_at g.sl g.h.m.ok hy)
    have ap := lv_apart g.sl g.h.m.ok h1 hy (fun e => o2 e.symm)
    omega
/-- An entry's head is put into it. -/
theorem u_put (g : GT w0 q S S' x R b u E W) (X : HB) (hX : X.Ok) (hr : X.right = true) (ht : X.tag = 1) : Calls Tryz.prog 125 #[.pointer (some ⟨q.m, 0, none⟩), .int .i64 x, X.val] W fun e w' => e = .returned (.int .i64 0) ∧ Fr q.blocks W w' ∧ GT w0 q S S' x R b (u.putH x 1 X.num 12) E w' ∧ EntH (u.putH x 1 X.num 12) x X := by
  obtain ⟨n, lv, h32, _, _, _, hap⟩ := g.lv
  have ok := g.h.m.ok
  obtain ⟨b1, b2, b3, b4, b5, b6, b7⟩ := lv_at g.sl ok lv
  have hh : HeadTo u x 1 5 X.num 0 := ⟨by decide, b1, by omega, by have : sz 1 = 32 := rfl; omega, by decide, fun g g1 g2 => b7 g g1 (by have : sz 1 = 32 := rfl; omega), fun f hf => absurd hf (Nat.not_lt_zero _), fun f hf => absurd hf (Nat.not_lt_zero _)⟩
  have hn : ∀ f, f < 12 → (wh 1 f).2 ≠ 0 → X.num f < 256 ^ (wh 1 f).2 := fun f hf h0 => num_fit X hX 1 (by decide) ht hr f hf h0
  have as_ := putH_as u x 1 X.num 12
  obtain ⟨r1, r2, r3, r4, r5⟩ := putH_rest u x X.num 12
  have hE := putH_head ok hh hn 12 (Nat.le_refl _)
  have hs := g.sl.rput ok lv X.num
  have ho := putH_out ok b1 X.num 12 (Nat.le_refl _)
  have ok' := putH_ok ok x 1 X.num 12
  refine (hput_yes W q u g.h x 1 5 X.num hh X hX hr ht (.inr ⟨rfl, by decide⟩)).mono fun e w' ⟨he, k1, k2⟩ => ⟨he, k2, ⟨k1, hs, g.rg.to ok' (fun f _ => by rw [r1]) (fun y hy => ⟨hy, (g.rg.ents.e y hy).out as_.1 as_.2 ho ?_⟩) g.rg.sub, g.new, as_.1.trans g.a, as_.2.trans g.s, g.f.step k2 (fun k hk => .inr (g.hq k hk)), g.hq⟩, ⟨hE, hX, hr, ht⟩⟩
  exact (hap y hy).symm
theorem GT.add {X : HB} (g : GT w0 q S S' x R b u E W) (hX : EntH u x X) (h1 : X.next = 0) (h2 : X.prev = 0) : GU w0 q S' R b u (up E x X) W := by
  obtain ⟨n, lv, h32, _, hx, hL, hap⟩ := g.lv
  exact ⟨g.h, g.sl, g.rg.add hx hX h1 h2 hap hL, g.a, g.s, g.f, g.hq⟩
end
end Go.Proofs.YtkapkbiccppldaaGreatDoor

/- The ring's page: entry, fresh, All over the page's memory. -/
namespace Go.Proofs.YtkapkbiccppldaaGreatDoor
set_option linter.unusedVariables false
set_option linter.unusedSimpArgs false
open Go.RowKit

def entX (c : Int) : HB := { tag := 1, cls := c, used := false, label := 0, name := 0, next := 0, prev := 0, refs := 0, expiry := 0, typ := 0, size := 0, hash := 0 }
theorem entX_ok {c : Int} (h : 1 ≤ c ∧ c ≤ 9) : (entX c).Ok ∧ (entX c).right = true := by
  have : c = 1 ∨ c = 2 ∨ c = 3 ∨ c = 4 ∨ c = 5 ∨ c = 6 ∨ c = 7 ∨ c = 8 ∨ c = 9 := by omega
  rcases this with rfl | rfl | rfl | rfl | rfl | rfl | rfl | rfl | rfl
  all_goals exact ⟨⟨by decide, by decide, by decide, by decide, by decide, by decide, by decide, by decide, by decide, by decide, by decide⟩, by decide⟩
section
variable {w0 W W' : World} {q : MH} {S S' : SS} {R : List Nat} {b x n : Nat} {u v : TM} {E E' : Nat → HB} {ft : Int}
theorem x_all (g : GX w0 q S R b ft W) : Calls Tryz.prog 44 #[.pointer (some ⟨q.m, 0, none⟩)] W fun e w' => ∃ v, e = .returned v ∧ Rw w' W.heap.size v R ∧ GX w0 q S R b ft w' ∧ Fr q.blocks W w' := by
  obtain ⟨u, E, h, e⟩ := g
  have := callsIn_wide.1 (rall_in 4 (Nat.le_refl _) W q u h.h h.rg)
  exact this.mono fun e' w' ⟨v, he, h1, h2, h3⟩ => ⟨v, he, h1, ⟨u, E, h.go h3 h2 h.sl h.rg rfl rfl, e⟩, h3⟩
theorem u_all (h : GU w0 q S R b u E W) : Calls Tryz.prog 44 #[.pointer (some ⟨q.m, 0, none⟩)] W fun e w' => ∃ v, e = .returned v ∧ Rw w' W.heap.size v R ∧ GU w0 q S R b u E w' ∧ Fr q.blocks W w' := by
  have := callsIn_wide.1 (rall_in 4 (Nat.le_refl _) W q u h.h h.rg)
  exact this.mono fun e' w' ⟨v, he, h1, h2, h3⟩ => ⟨v, he, h1, h.go h3 h2 h.sl h.rg rfl rfl, h3⟩
/-- entry, both ways. -/
def EnP (w0 : World) (q : MH) (S : SS) (R : List Nat) (b : Nat) (ft : Int) (c : Int) (x : Nat) (w' : World) : Prop :=
  ((takeS 7 (lbase 7 224) S c).2.1 ≠ 0 ∧ x = 0 ∧ GX w0 q S R b ft w') ∨
  ((takeS 7 (lbase 7 224) S c).2.1 = 0 ∧ 1 ≤ c ∧ c ≤ 9 ∧ x = (takeS 7 (lbase 7 224) S c).1 ∧ GX w0 q (takeS 7 (lbase 7 224) S c).2.2 R b ft w' ∧ LvP (takeS 7 (lbase 7 224) S c).2.2 x ∧ ¬ LvP S x ∧ 0 < x ∧ x < 1048576 ∧ ∀ y, LvP (takeS 7 (lbase 7 224) S c).2.2 y ↔ y = x ∨ LvP S y)
theorem GX.ltL (g : GX w0 q S R b ft W) (hx : LvP S x) : 0 < x ∧ x < 1048576 := by
  obtain ⟨u, E, h, e⟩ := g
  exact ⟨Nat.pos_of_ne_zero (h.rg.ne0 hx), h.rg.lt4 hx⟩
theorem x_entry (g : GX w0 q S R b ft W) (c : Int) : Calls Tryz.prog 41 #[.pointer (some ⟨q.m, 0, none⟩), .int .i64 c] W fun e w' => ∃ x : Nat, e = .returned (.int .i64 x) ∧ Fr q.blocks W w' ∧ EnP w0 q S R b ft c x w' := by
  obtain ⟨u, E, h, e⟩ := g
  have ht := u_take h c
  have HP := Lib.hid (fun V (hV : TkP w0 q S R b u E W c V) => hV)
  have HQ := Lib.hid (show ∀ x w', EnP w0 q S R b ft c x w' = (((takeS 7 (lbase 7 224) S c).2.1 ≠ 0 ∧ x = 0 ∧ GX w0 q S R b ft w') ∨
  ((takeS 7 (lbase 7 224) S c).2.1 = 0 ∧ 1 ≤ c ∧ c ≤ 9 ∧ x = (takeS 7 (lbase 7 224) S c).1 ∧ GX w0 q (takeS 7 (lbase 7 224) S c).2.2 R b ft w' ∧ LvP (takeS 7 (lbase 7 224) S c).2.2 x ∧ ¬ LvP S x ∧ 0 < x ∧ x < 1048576 ∧ ∀ y, LvP (takeS 7 (lbase 7 224) S c).2.2 y ↔ y = x ∨ LvP S y)) from fun _ _ => rfl)
  have HE := Lib.hid e
  generalize EnP w0 q S R b ft c = Q at *
  unfold TkP at ht
  generalize hS' : (takeS 7 (lbase 7 224) S c).2.2 = S' at *
  generalize hr : (takeS 7 (lbase 7 224) S c).2.1 = r at *
  generalize hx : (takeS 7 (lbase 7 224) S c).1 = x at *
  clear h e hS' hr hx HP
  go_enter Tryz.func41, Tryz.ntmps41
  go_wp2_with fail
  with_reducible refine ht.mono ?_
  rintro e w1 ⟨rfl, f1, hT⟩
  have F1 := Lib.hid f1
  clear f1 ht
  rcases hT with ⟨h0, v, g1, ef⟩ | ⟨h0, c1, c9, v, g1, ef⟩
  · have hr0 : ((r : Int) != 0) = true := by simp; omega
    have G1 := Lib.hid g1
    have EF := Lib.hid (ef.trans HE.out)
    have HN := Lib.hid h0
    clear g1 ef h0
    go_wp2_with fail
    go_ret
    exact ⟨0, rfl, F1.out, by rw [HQ.out]; exact .inl ⟨HN.out, rfl, ⟨v, E, G1.out, EF.out⟩⟩⟩
  · subst h0
    have hok := entX_ok ⟨c1, c9⟩
    obtain ⟨n, lv, _, hl1, hl2, hl3, _⟩ := g1.lv
    have HU := Lib.hid (fun V (hV : GT w0 q S S' x R b v E V) => (show Calls Tryz.prog 125 #[.pointer (some ⟨q.m, 0, none⟩), .int .i64 x, .agg #[.int .i64 1, .int .i64 c, .bool false, .int .i64 0, .int .u32 0, .int .u32 0, .int .u32 0, .int .u32 0, .int .u64 0, .int .u16 0, .int .i64 0, .int .u32 0]] V fun e w' => e = .returned (.int .i64 0) ∧ Fr q.blocks V w' ∧ GX w0 q S' R b ft w' from
      (u_put hV (entX c) hok.1 hok.2 rfl).mono fun e w' ⟨k1, k2, k3, k4⟩ => ⟨k1, k2, ⟨_, _, k3.add k4 rfl rfl, by rw [(putH_rest v x (entX c).num 12).2.2.2.1, ef]; exact HE.out⟩⟩))
    have G1 := Lib.hid g1
    have HL := Lib.hid (And.intro hl1 (And.intro hl2 hl3))
    have HC := Lib.hid (And.intro c1 c9)
    clear g1 ef lv hl1 hl2 hl3 c1 c9 hok
    go_wp2_with fail
    with_reducible refine (HU.out _ G1.out).mono ?_
    rintro e w2 ⟨rfl, f2, h2⟩
    have F2 := Lib.hid (F1.out.trans f2)
    have H2 := Lib.hid h2
    clear f2 h2
    go_wp2_with fail
    go_ret
    have hlt := H2.out.ltL HL.out.1
    exact ⟨x, rfl, F2.out, by rw [HQ.out]; exact .inr ⟨by first | exact rfl | trivial, HC.out.1, HC.out.2, rfl, H2.out, HL.out.1, HL.out.2.1, hlt.1, hlt.2, HL.out.2.2⟩⟩
end
end Go.Proofs.YtkapkbiccppldaaGreatDoor

/- The ring's page: fresh, turns. -/
namespace Go.Proofs.YtkapkbiccppldaaGreatDoor
set_option linter.unusedVariables false
set_option linter.unusedSimpArgs false
open Go.RowKit

section
variable {w0 W W' : World} {q : MH} {S S' : SS} {R : List Nat} {b x n : Nat} {u v : TM} {E E' : Nat → HB} {ft : Int}
theorem lvP_zero (x : Nat) : ¬ LvP SS.zero x := fun ⟨n, i, hi, hx, _⟩ => (nomatch hx)
theorem GX.lt (g : GX w0 q S R b ft W) : ∀ k ∈ q.blocks, k < W.heap.size := by
  obtain ⟨u, E, h, e⟩ := g
  exact h.h.m.lt
theorem g_begin {w0 : World} (h : M15 w0 q 7 224 SS.zero W) : Calls Tryz.prog 124 #[.pointer (some ⟨q.m, 0, none⟩)] W fun e w' => e = .returned (.int .i64 0) ∧ GX w0 q SS.zero [] 0 0 w' := by
  obtain ⟨u, h1, h2, h3, h4, h5⟩ := h.x
  have k1 := setRt_ok h1.m.ok 13 0 (by decide)
  have k2 := setRt_ok k1 14 0 (by decide)
  have k3 := setRt_ok k2 15 0 (by decide)
  have s1 := h2.root h1.m.ok 13 0 (by decide) (by decide)
  have s2 := s1.root k1 14 0 (by decide) (by decide)
  have s3 := s2.root k2 15 0 (by decide) (by decide)
  exact (rbegin h1).mono fun e w' ⟨he, k, kf⟩ => ⟨he, _, fun _ => entX 0, ⟨k, s3, ⟨⟨k3, fun x hx => absurd hx (lvP_zero x), fun x _ hx => absurd hx (lvP_zero x)⟩, fun x hx => (nomatch hx), List.Pairwise.nil, rfl, rfl, rfl, fun e => absurd rfl e, fun _ => rfl, trivial, fun x hx => absurd hx (lvP_zero x)⟩, h3, h4, h.f.step kf (fun k hk => .inr (h.hq k hk)), h.hq⟩, h5⟩
theorem fresh17 (w : World) (hM : TabM w) (hT : Tabs w) : Calls Tryz.prog 40 #[] w fun e w' => ∃ q : MH, e = .returned (.pointer (some ⟨q.m, 0, none⟩)) ∧ GX w q SS.zero [] 0 0 w' := by
  have hn := (show Calls Tryz.prog 15 #[.agg #[.int .i64 7, .int .i64 224]] w (NewH w 7 224) from hnew w hM hT 7 224 cfg7)
  go_enter Tryz.func40, Tryz.ntmps40
  go_wp2_with fail
  with_reducible refine hn.mono ?_
  rintro e w1 ⟨q, rfl, h1, hq, f1⟩
  have HB := Lib.hid (m_begin (w0 := w) h1 cfg7 f1 hq)
  clear h1 hq f1 hn
  go_wp2_with fail
  with_reducible refine HB.out.mono ?_
  rintro e w2 ⟨rfl, h2, _⟩
  have HG := Lib.hid (g_begin h2)
  clear h2 HB
  go_wp2_with fail
  with_reducible refine HG.out.mono ?_
  rintro e w3 ⟨rfl, h3⟩
  have H3 := Lib.hid h3
  clear h3 HG
  go_wp2_with fail
  go_ret
  exact ⟨q, rfl, H3.out⟩
theorem rowLit (w : World) (base : Nat) (l : List Nat) (c : Array Value) (hc : c.toList = intC l) (hb : base ≤ w.heap.size) : RowV (w.alloc (.cells c 3)) base (some ⟨w.heap.size, 0, none⟩) l.length l := by
  have hs : c.size = l.length := by rw [← Array.length_toList, hc]; simp [intC]
  exact fun _ => ⟨_, rfl, hb, c, Blk.new _ _ _, hs, by omega, by rw [hc]; exact List.take_of_length_le (by simp [intC])⟩
def y1 : Nat × Nat × SS := takeS 7 (lbase 7 224) SS.zero 1
def y2 : Nat × Nat × SS := takeS 7 (lbase 7 224) y1.2.2 1
def y3 : Nat × Nat × SS := takeS 7 (lbase 7 224) y2.2.2 2
def y4 : Nat × Nat × SS := takeS 7 (lbase 7 224) y3.2.2 1
theorem y1v : y1.2.1 = 0 := by decide +kernel
theorem y2v : y2.2.1 = 0 := by decide +kernel
theorem y3v : y3.2.1 = 0 := by decide +kernel
theorem y4v : y4.2.1 = 0 := by decide +kernel
theorem EnP.got {c : Int} {w' : World} (h : EnP w0 q S R b ft c x w') (h0 : (takeS 7 (lbase 7 224) S c).2.1 = 0) : GX w0 q (takeS 7 (lbase 7 224) S c).2.2 R b ft w' ∧ LvP (takeS 7 (lbase 7 224) S c).2.2 x ∧ ¬ LvP S x ∧ 0 < x ∧ ∀ y, LvP (takeS 7 (lbase 7 224) S c).2.2 y ↔ y = x ∨ LvP S y := by
  rcases h with ⟨h, _⟩ | ⟨_, _, _, _, h1, h2, h3, h4, _, h5⟩
  · exact absurd h0 h
  · exact ⟨h1, h2, h3, h4, h5⟩
set_option maxRecDepth 100000 in
set_option maxHeartbeats 4000000 in
theorem turns17 (w : World) (hM : TabM w) (hT : Tabs w) : Calls Tryz.prog 39 #[] w fun e w' => e = .returned (.bool true) ∧ Fr [] w w' := by
  have HF := fresh17 w hM hT
  clear hM hT
  go_enter Tryz.func39, Tryz.ntmps39
  go_wp2_with fail
  with_reducible refine HF.mono ?_
  rintro e w1 ⟨q, rfl, h1⟩
  have k1 := Lib.hid (x_entry h1 1)
  clear HF h1
  go_wp2_with fail
  with_reducible refine k1.out.mono ?_
  rintro e w2 ⟨a, rfl, -, h2⟩
  have g2 := Lib.hid (h2.got y1v)
  have k2 := Lib.hid (x_entry g2.out.1 1)
  clear k1 h2
  go_wp2_with fail
  with_reducible refine k2.out.mono ?_
  rintro e w3 ⟨b, rfl, -, h3⟩
  have g3 := Lib.hid (h3.got y2v)
  have k3 := Lib.hid (x_entry g3.out.1 2)
  clear k2 h3
  go_wp2_with fail
  with_reducible refine k3.out.mono ?_
  rintro e w4 ⟨c, rfl, -, h4⟩
  have g4 := Lib.hid (h4.got y3v)
  have k4 := Lib.hid (x_entry g4.out.1 1)
  clear k3 h4
  go_wp2_with fail
  with_reducible refine k4.out.mono ?_
  rintro e w5 ⟨d, rfl, -, h5⟩
  obtain ⟨-, a1, a2, a3, a4⟩ := g2.out
  obtain ⟨-, b1, b2, b3, b4⟩ := g3.out
  obtain ⟨-, c1, c2, c3, c4⟩ := g4.out
  obtain ⟨g5, d1, d2, d3, d4⟩ := h5.got y4v
  have La3 := (b4 a).2 (.inr a1)
  have La4 := (c4 a).2 (.inr La3)
  have La5 := (d4 a).2 (.inr La4)
  have Lb4 := (c4 b).2 (.inr b1)
  have Lb5 := (d4 b).2 (.inr Lb4)
  have Lc5 := (d4 c).2 (.inr c1)
  generalize (takeS 7 (lbase 7 224) (takeS 7 (lbase 7 224) (takeS 7 (lbase 7 224) (takeS 7 (lbase 7 224) SS.zero 1).2.2 1).2.2 2).2.2 1).2.2 = S5 at g5 d1 La5 Lb5 Lc5
  have ab : b ≠ a := fun e => b2 (e ▸ a1)
  have ac : c ≠ a := fun e => c2 (e ▸ La3)
  have bc : c ≠ b := fun e => c2 (e ▸ b1)
  have ad : d ≠ a := fun e => d2 (e ▸ La4)
  have bd : d ≠ b := fun e => d2 (e ▸ Lb4)
  have cd : d ≠ c := fun e => d2 (e ▸ c1)
  have j1 := Lib.hid (x_ins g5 La5 (by simp))
  have NAB := Lib.hid (show b ∉ [] ++ [a] from by simpa using ab)
  have NC := Lib.hid (show c ∉ [] ++ [a] ++ [b] from by simpa using ⟨ac, bc⟩)
  have ND := Lib.hid (show d ∉ [b, c] ++ [a] from by simpa using ⟨bd, cd, ad⟩)
  have LB := Lib.hid Lb5
  have LC := Lib.hid Lc5
  have LD := Lib.hid d1
  have A0 := Lib.hid a3
  clear g2 g3 g4 h5 a1 a2 a3 a4 b1 b2 b3 b4 c1 c2 c3 c4 d1 d2 d3 d4 La3 La4 La5 Lb4 Lb5 Lc5 ab ac bc ad bd cd g5 k4
  go_wp2_with fail
  with_reducible refine j1.out.mono ?_
  rintro e w6 ⟨rfl, h6, -⟩
  have j2 := Lib.hid (x_ins h6 LB.out NAB.out)
  clear h6 j1
  go_wp2_with fail
  with_reducible refine j2.out.mono ?_
  rintro e w7 ⟨rfl, h7, -⟩
  have j3 := Lib.hid (x_ins h7 LC.out NC.out)
  clear h7 j2
  go_wp2_with fail
  with_reducible refine j3.out.mono ?_
  rintro e w8 ⟨rfl, h8, -⟩
  have h8' : GX w q S5 [a, b, c] a 0 w8 := h8
  have HQ8 := Lib.hid h8'.lt
  have j4 := Lib.hid (x_all h8')
  clear h8 h8' j3
  go_wp2_with fail
  with_reducible refine j4.out.mono ?_
  rintro e w9 ⟨v, rfl, r9, h9, -⟩
  have hlt := h9.f.size
  obtain ⟨ad9, cp9, rfl, rv9⟩ := own_row r9
  have RV := Lib.hid rv9
  have j5 := Lib.hid (x_turn1 h9)
  clear h9 r9 rv9 j4
  go_wp2_with fail
  with_reducible refine j5.out.mono ?_
  rintro e w10 ⟨rfl, h10, f10⟩
  have RV1 := Lib.hid (RV.out.fr f10 HQ8.out)
  have j6 := Lib.hid (x_ins h10 LD.out ND.out)
  clear h10 j5 f10
  go_wp2_with fail
  with_reducible refine j6.out.mono ?_
  rintro e w11 ⟨rfl, h11, f11⟩
  have RV2 := Lib.hid (RV1.out.fr f11 HQ8.out)
  have h11' : GX w q S5 [b, c, a, d] a 0 w11 := h11
  have H11 := Lib.hid h11'
  have LS := Lib.hid (fun (V : World) (hV : Fr [] w11 V) => (show Calls Tryz.prog 32 #[.slice ad9 3 cp9, .slice (some ⟨V.heap.size, 0, none⟩) 3 3] (V.alloc (.cells #[.int .i64 a, .int .i64 b, .int .i64 c] 3)) fun e w' => e = .returned (.bool true) ∧ Fr [] (V.alloc (.cells #[.int .i64 a, .int .i64 b, .int .i64 c] 3)) w' from
    r14same (l := [a, b, c]) ((RV2.out.fr hV (by simp)).fr ((Fr.refl [] V).alloc _) (by simp)) (rowLit V V.heap.size [a, b, c] _ rfl (Nat.le_refl _)) (by simp)))
  have LT := Lib.hid (fun (V : World) (hV : GX w q S5 [b, c, a, d] a 0 V) => x_all hV)
  have LU := Lib.hid (fun (V : World) (ad : Option Addr) (cp B : Nat) (hV : RowV V B ad cp [b, c, a, d]) => (show Calls Tryz.prog 32 #[.slice ad 4 cp, .slice (some ⟨V.heap.size, 0, none⟩) 4 4] (V.alloc (.cells #[.int .i64 b, .int .i64 c, .int .i64 a, .int .i64 d] 3)) fun e w' => e = .returned (.bool true) ∧ Fr [] (V.alloc (.cells #[.int .i64 b, .int .i64 c, .int .i64 a, .int .i64 d] 3)) w' from
    r14same (l := [b, c, a, d]) (hV.fr ((Fr.refl [] V).alloc _) (by simp)) (rowLit V V.heap.size [b, c, a, d] _ rfl (Nat.le_refl _)) (by simp)))
  have LV := Lib.hid (fun (V : World) (hV : GX w q S5 [b, c, a, d] a 0 V) => And.intro (x_broom hV) (And.intro (x_len hV) (And.intro (x_insSt (x := a) hV (by simp)) (x_flt hV))))
  clear h11 h11' j6 f11 RV RV1 NAB NC ND LB LC LD A0
  go_wp2_with fail
  with_reducible refine (LS.out _ (Fr.refl _ _)).mono ?_
  rintro e w12 ⟨rfl, f12⟩
  have H12 := Lib.hid (H11.out.fr0 (((Fr.refl [] w11).alloc _).trans f12))
  clear f12 LS H11
  go_wp2_with fail
  with_reducible refine (LT.out _ H12.out).mono ?_
  rintro e w13 ⟨v, rfl, r13, h13, -⟩
  obtain ⟨ad13, cp13, rfl, rv13⟩ := own_row r13
  have RV13 := Lib.hid rv13
  have H13 := Lib.hid h13
  clear r13 rv13 h13 H12 LT
  go_wp2_with fail
  with_reducible refine (LU.out _ _ _ _ RV13.out).mono ?_
  rintro e w14 ⟨rfl, f14⟩
  have H14 := Lib.hid (H13.out.fr0 (((Fr.refl [] w13).alloc _).trans f14))
  clear f14 LU H13 RV13
  go_wp2_with fail
  with_reducible refine (LV.out _ H14.out).1.mono ?_
  rintro e w15 ⟨rfl, h15, -⟩
  have H15 := Lib.hid h15
  clear h15 H14
  go_wp2_with fail
  with_reducible refine (LV.out _ H15.out).2.1.mono ?_
  rintro e w16 ⟨rfl, h16, -⟩
  have H16 := Lib.hid h16
  clear h16 H15
  go_wp2_with fail
  with_reducible refine (LV.out _ H16.out).2.2.1.mono ?_
  rintro e w17 ⟨rfl, h17, -⟩
  have H17 := Lib.hid h17
  clear h17 H16
  go_wp2_with fail
  with_reducible refine (LV.out _ H17.out).2.2.2.mono ?_
  rintro e w18 ⟨rfl, h18, -⟩
  have H18 := Lib.hid h18
  clear h18 H17
  go_wp2_with fail
  go_ret
  exact ⟨rfl, H18.out.f⟩
end
end Go.Proofs.YtkapkbiccppldaaGreatDoor

/- The ring's page: room for entries of class 1; the hand and the broom over one ring. -/
namespace Go.Proofs.YtkapkbiccppldaaGreatDoor
set_option linter.unusedVariables false
set_option linter.unusedSimpArgs false
open Go.RowKit

section
variable {w0 W W' : World} {q : MH} {S S' : SS} {R : List Nat} {b x n : Nat} {t u v : TM} {E E' : Nat → HB} {ft : Int}
/-- All live blocks of so many slabs. -/
def lives (S : SS) (n : Nat) : List Nat := (List.range n).flatMap S.lv
theorem lives_succ (S : SS) (n : Nat) : lives S (n + 1) = lives S n ++ S.lv n := by unfold lives; rw [List.range_succ, List.flatMap_append]; simp
theorem mem_lives {n y : Nat} : y ∈ lives S n ↔ ∃ i, i < n ∧ y ∈ S.lv i := by
  unfold lives
  rw [List.mem_flatMap]
  exact ⟨fun ⟨i, h1, h2⟩ => ⟨i, List.mem_range.1 h1, h2⟩, fun ⟨i, h1, h2⟩ => ⟨i, List.mem_range.2 h1, h2⟩⟩
theorem lives_nodup (hok : t.Ok) (hs : SlI t S) : ∀ n, n ≤ t.a → (lives S n).Nodup
  | 0, _ => List.Pairwise.nil
  | n + 1, h => by
    rw [lives_succ]
    refine List.nodup_append.2 ⟨lives_nodup hok hs n (by omega), ?_, fun y hy z hz e => ?_⟩
    · exact (hs.each n (by omega)).so.imp (fun h => Nat.ne_of_lt h)
    · subst e
      obtain ⟨i, hi, hy⟩ := mem_lives.1 hy
      have := hs.slab_eq hok (i := i) (j := n) (by omega) (by omega) (.inr hy) (.inr hz)
      omega
theorem sub_len : ∀ {l m : List Nat}, l.Nodup → (∀ x ∈ l, x ∈ m) → l.length ≤ m.length
  | [], m, _, _ => Nat.zero_le _
  | a :: l, m, h, hs => by
    have hn := List.nodup_cons.1 h
    have ha := hs a (List.mem_cons_self ..)
    have := sub_len (l := l) (m := m.erase a) hn.2 (fun x hx => (List.mem_erase_of_ne (fun e : x = a => hn.1 (by rw [← e]; exact hx))).2 (hs x (List.mem_cons_of_mem _ hx)))
    have h2 := List.length_erase_of_mem ha
    have h3 := List.length_pos_of_mem ha
    rw [List.length_cons]
    omega
/-- Slabs are free ones, or of class 1. -/
def One1 (S : SS) : Prop := ∀ i, i < 7 → S.cls i ≤ 1
theorem lst_nil {a : Nat} {inn : Nat → Int} {c : Nat} (h : ¬ 0 < hd1 (lst a inn c)) : ∀ i, i < a → inn i ≠ (c : Int) := fun i hi e => by
  have hm : i ∈ lst a inn c := by unfold lst; exact List.mem_filter.2 ⟨List.mem_range.2 hi, by simpa using e⟩
  cases hl : lst a inn c with
  | nil => rw [hl] at hm; exact nomatch hm
  | cons k l => rw [hl] at h; exact h (by unfold hd1; simp)
theorem one1_room (hok : t.Ok) (hs : SlI t S) (ha : t.a = 7) (h1 : One1 S) (hL : ∀ y, LvP S y → y ∈ R) (hR : R.length < 224) : (takeS 7 (lbase 7 224) S 1).2.1 = 0 := by
  unfold takeS
  rw [if_neg (by decide)]
  split
  · rfl
  · next hn1 =>
    split
    · rfl
    · next hn0 =>
      exfalso
      have e1 := lst_nil hn1
      have e0 := lst_nil hn0
      have hfull : ∀ i, i < 7 → (S.lv i).length = 32 := fun i hi => by
        have hc := h1 i hi
        have k1 := e1 i hi
        have k0 := e0 i hi
        have hs1 := hs.each i (by omega)
        unfold SS.inn at k1 k0
        by_cases c0 : S.cls i = 0
        · rw [if_pos c0] at k0; exact absurd rfl k0
        · have c1 : S.cls i = 1 := by omega
          rw [if_neg c0] at k1
          by_cases hf : S.fr i = []
          · have := hs1.len c0
            rw [hf, c1] at this
            have n1 : nbk 1 = 32 := rfl
            simp only [List.length_nil] at this
            omega
          · rw [if_neg hf, c1] at k1; exact absurd rfl k1
      have hlen : ∀ n, n ≤ 7 → (lives S n).length = 32 * n := fun n => by
        induction n with
        | zero => intro _; rfl
        | succ n ih => intro hn; rw [lives_succ, List.length_append, ih (by omega), hfull n (by omega)]; omega
      have hsub : ∀ y ∈ lives S 7, y ∈ R := fun y hy => by
        obtain ⟨i, hi, hy⟩ := mem_lives.1 hy
        exact hL y ⟨_, i, hi, hy, rfl⟩
      have h2 := sub_len (lives_nodup hok hs 7 (by omega)) hsub
      rw [hlen 7 (Nat.le_refl _)] at h2
      omega
theorem one1_take (h1 : One1 S) : One1 (takeS 7 (lbase 7 224) S 1).2.2 := by
  have hpop : ∀ (T : SS) i, One1 T → One1 (popS T i).2.2 := fun T i hT j hj => by
    show up T.cls i (T.cls i) j ≤ 1
    unfold up
    split
    · next e => rw [← e]; exact hT j hj
    · exact hT j hj
  unfold takeS
  rw [if_neg (by decide)]
  split
  · exact hpop _ _ h1
  · split
    · refine hpop _ _ (fun j hj => ?_)
      show up S.cls _ _ j ≤ 1
      unfold up
      split
      · exact Nat.le_refl _
      · exact h1 j hj
    · exact h1
/-- The hand goes on: nobody's links turn. -/
theorem u_turn {a : Nat} {T : List Nat} (h : GU w0 q S (a :: T) b u E W) : Calls Tryz.prog 43 #[.pointer (some ⟨q.m, 0, none⟩)] W fun e w' => e = .returned (.int .i64 a) ∧ (∃ v, GU w0 q S (T ++ [a]) b v E w' ∧ v.ft = u.ft) ∧ Fr q.blocks W w' := by
  have ha := h.rg.sub a (List.mem_cons_self ..)
  have ln := h.rg.lt4 (h.rg.sub _ (h.rg.nbr (List.mem_cons_self (a := a) (l := T))).1)
  exact (gTurn_1 h.h h.rg.ents ha h.rg.hand).mono fun e' w' ⟨he, h1, h2⟩ => ⟨he, ⟨_, h.go h2 h1 (h.sl.root h.rg.ents.ok 13 _ (by have : 256 ^ fldW 13 = 4294967296 := rfl; omega) (by decide)) h.rg.turn rfl rfl, rfl⟩, h2⟩
/-- The broom goes on, round any way round the ring. -/
theorem u_brush {P Q : List Nat} (h : GU w0 q S R b u E W) (h0 : R ≠ []) (hc : Cyc E (P ++ b :: Q)) : Calls Tryz.prog 45 #[.pointer (some ⟨q.m, 0, none⟩)] W fun e w' => e = .returned (.int .i64 b) ∧ (∃ v, GU w0 q S R ((Q ++ P).headD b) v E w' ∧ v.ft = u.ft) ∧ Fr q.blocks W w' := by
  have hb := h.rg.bin h0
  have ln := h.rg.lt4 (h.rg.sub _ (h.rg.nbr hb).1)
  have hr := h.rg.brush h0
  have hn := (cyc_nx hc).1
  have hr2 : RgI (u.setRt 14 (E b).next) (LvP S) E R ((Q ++ P).headD b) := hn ▸ hr
  exact (gBrush_1 h.h h.rg.ents (h.rg.sub b hb) h.rg.broom).mono fun e' w' ⟨he, h1, h2⟩ => ⟨he, ⟨u.setRt 14 (E b).next, h.go h2 h1 (h.sl.root h.rg.ents.ok 14 _ (by have : 256 ^ fldW 14 = 4294967296 := rfl; omega) (by decide)) hr2 rfl rfl, rfl⟩, h2⟩
/-- Round i: the hand is at the i-th, the broom has been at the first i of D. -/
structure Rnd (w0 : World) (q : MH) (S : SS) (R D : List Nat) (E : Nat → HB) (i : Nat) (W : World) : Prop where
  g : ∃ u, GU w0 q S (R.drop i ++ R.take i) ((D.drop i ++ D.take i).headD 0) u E W ∧ u.ft = 0
theorem rnd_step {i : Nat} (hi : i < R.length) : (R.drop (i + 1) ++ R.take i) ++ [R[i]] = R.drop (i + 1) ++ R.take (i + 1) := by
  rw [List.append_assoc, List.take_add_one, List.getElem?_eq_getElem hi]; rfl
theorem rnd_split {D : List Nat} {i : Nat} (hi : i < D.length) : D.drop i ++ D.take i = D[i] :: (D.drop (i + 1) ++ D.take i) ∧ D = D.take i ++ D[i] :: D.drop (i + 1) := by
  have h := List.drop_eq_getElem_cons hi
  refine ⟨by rw [h]; rfl, ?_⟩
  conv => lhs; rw [← List.take_append_drop i D, h]
theorem Rnd.turn {D : List Nat} {i : Nat} (h : Rnd w0 q S R D E i W) (hi : i < R.length) : Calls Tryz.prog 43 #[.pointer (some ⟨q.m, 0, none⟩)] W fun e w' => e = .returned (.int .i64 R[i]) ∧ (∃ u, GU w0 q S (R.drop (i + 1) ++ R.take (i + 1)) ((D.drop i ++ D.take i).headD 0) u E w' ∧ u.ft = 0) ∧ Fr q.blocks W w' := by
  obtain ⟨u, g, e⟩ := h.g
  rw [(rnd_split hi).1] at g
  refine (u_turn g).mono fun e' w' ⟨he, ⟨v, h1, h2⟩, h3⟩ => ⟨he, ⟨v, ?_, h2.trans e⟩, h3⟩
  rw [← rnd_step hi]
  exact h1
theorem rnd_brush {D : List Nat} {i : Nat} (g : ∃ u, GU w0 q S (R.drop (i + 1) ++ R.take (i + 1)) ((D.drop i ++ D.take i).headD 0) u E W ∧ u.ft = 0) (hi : i < D.length) (hR : R ≠ []) (hc : Cyc E D) : Calls Tryz.prog 45 #[.pointer (some ⟨q.m, 0, none⟩)] W fun e w' => e = .returned (.int .i64 D[i]) ∧ Rnd w0 q S R D E (i + 1) w' ∧ Fr q.blocks W w' := by
  obtain ⟨u, g, e⟩ := g
  have hs := rnd_split hi
  rw [hs.1] at g
  have hc' : Cyc E (D.take i ++ D[i] :: D.drop (i + 1)) := by rw [← hs.2]; exact hc
  refine (u_brush (b := D[i]) g (fun e => ?_) hc').mono fun e' w' ⟨he, ⟨v, h1, h2⟩, h3⟩ => ⟨he, ⟨v, ?_, h2.trans e⟩, h3⟩
  · have := congrArg List.length e
    rw [List.length_append, List.length_drop, List.length_take] at this
    cases R with
    | nil => exact hR rfl
    | cons a R => simp at this
  · have : (D.drop (i + 1) ++ D.take i).headD D[i] = (D.drop (i + 1) ++ D.take (i + 1)).headD 0 := by
      rw [List.take_add_one, List.getElem?_eq_getElem hi, Option.toList_some, ← List.append_assoc]
      cases hh : D.drop (i + 1) ++ D.take i <;> rfl
    rw [← this]
    exact h1
end
end Go.Proofs.YtkapkbiccppldaaGreatDoor

/- The ring's page: pick; a place that is no entry. -/
namespace Go.Proofs.YtkapkbiccppldaaGreatDoor
set_option linter.unusedVariables false
set_option linter.unusedSimpArgs false
open Go.RowKit

section
variable {w w0 W W' : World} {q : MH} {S S' : SS} {R : List Nat} {b x n : Nat} {t u v : TM} {E E' : Nat → HB} {ft : Int}
/-- The N-th of all; 0: there is none. -/
def pkL (l : List Nat) (n : Int) : Nat := l[nthZ n l.length]?.getD 0
theorem pk_mem {l : List Nat} (h : l ≠ []) (n : Int) : pkL l n ∈ l := by
  have hl : 0 < l.length := List.length_pos_iff.2 h
  have := nthZ_lt n l.length hl
  unfold pkL
  rw [List.getElem?_eq_getElem this]
  exact List.getElem_mem _
theorem pk_nil (n : Int) : pkL [] n = 0 := rfl
theorem xpick {base cap : Nat} {ad : Option Addr} {l : List Nat} (h : RowV W base ad cap l) (hl : l.length ≤ 1048576) (n : Int) : Calls Tryz.prog 46 #[.slice ad l.length cap, .int .i64 n] W fun e w' => e = .returned (.int .i64 (pkL l n)) ∧ Fr [] W w' := by
  by_cases h0 : l.length = 0
  · have hl0 : l = [] := List.length_eq_zero_iff.1 h0
    subst hl0
    rw [pk_nil]
    have e0 : (([] : List Nat).length : Int) = 0 := rfl
    clear h h0 hl
    go_enter Tryz.func46, Tryz.ntmps46
    go_wp2_with fail
    go_ret
    exact ⟨rfl, Fr.refl _ _⟩
  · obtain ⟨g, rfl, _, hr⟩ := h (by omega)
    have hlt := nthZ_lt n l.length (by omega)
    have hc := hr.cell (nthZ n l.length) hlt
    have hpk : pkL l n = l[nthZ n l.length] := by unfold pkL; rw [List.getElem?_eq_getElem hlt]; rfl
    rw [hpk]
    have hmx := nthZ_max n l.length
    obtain ⟨t1, t2⟩ := tmod_in n l.length (by omega) hl
    have b1 : ((l.length : Int) == 0) = false := by rw [beq_eq_false_iff_ne]; omega
    have b1' : (l.length == 0) = false := by rw [beq_eq_false_iff_ne]; omega
    have b2 : ((l.length : Int) ≠ 0) := by omega
    generalize l[nthZ n l.length] = y at *
    generalize nthZ n l.length = k at *
    generalize hn : l.length = m at *
    generalize hR : n.tmod (m : Int) = r at *
    have k0 : (0 : Int) ≤ k := by omega
    have k1 : (k : Int) < m := by omega
    clear hr h hl hpk hlt
    go_enter Tryz.func46, Tryz.ntmps46
    go_wp2_with fail
    go_ret
    exact ⟨rfl, Fr.refl _ _⟩
end
end Go.Proofs.YtkapkbiccppldaaGreatDoor

/- Package ring: a place that is no entry: Insert and Remove refuse. -/
namespace Go.Proofs.YtkapkbiccppldaaGreatDoor
set_option linter.unusedVariables false
set_option linter.unusedSimpArgs false
open Go.RowKit

section
variable {w w0 W W' : World} {q : MH} {S S' : SS} {R : List Nat} {b n : Nat} {x : Int} {t u v : TM} {E E' : Nat → HB} {ft : Int}
theorem rentry_no (h : IsH w q t) (x : Int) (hx : tagA t x ≠ 1) : Calls Tryz.prog 126 #[.pointer (some ⟨q.m, 0, none⟩), .int .i64 x] w fun e w' => e = .returned (.int .i64 30) ∧ (∃ f, IsH w' q (t.fl f)) ∧ Fr q.blocks w w' := by
  have hm := rmade h.m
  have HG := Lib.hid (fun W (hW : IsH W q t) => (show Calls Tryz.prog 72 #[.pointer (some ⟨q.m, 0, none⟩), .int .i64 x] W fun e w' => ∃ (X : HB) (c : Nat), e = .returned (.tuple #[.agg #[.int .i64 X.tag, .int .i64 X.cls, .bool X.used, .int .i64 X.label, .int .u32 X.name, .int .u32 X.next, .int .u32 X.prev, .int .u32 X.refs, .int .u64 X.expiry, .int .u16 X.typ, .int .i64 X.size, .int .u32 X.hash], .int .i64 c]) ∧ (c = 0 → X.tag = tagA t x) ∧ (∃ f, IsH w' q (t.fl f)) ∧ Fr q.blocks W w' from hget_any W q t hW x))
  have H0 := Lib.hid h
  generalize tagA t x = tag at *
  clear h
  go_enter Tryz.func126, Tryz.ntmps126
  go_wp2_with fail
  with_reducible refine hm.mono ?_
  rintro e w1 ⟨rfl, f1⟩
  have H1 := Lib.hid (H0.out.fr0 f1)
  have F1 := Lib.hid (f1.nil (S := q.blocks))
  clear hm f1
  go_wp2_with fail
  with_reducible refine (HG.out _ H1.out).mono ?_
  rintro e w2 ⟨X, c, rfl, hc, h2, f2⟩
  have H2 := Lib.hid h2
  have F2 := Lib.hid (F1.out.trans f2)
  clear h2 f2 HG
  by_cases hc0 : c = 0
  · subst hc0
    have hX := hc rfl
    have b1 : (X.tag != 1) = true := by rw [bne_iff_ne, hX]; exact hx
    clear hc hX hx
    go_wp2_with fail
    go_ret
    obtain ⟨f, hh⟩ := H2.out
    exact ⟨rfl, ⟨f, hh.alloc _⟩, F2.out.alloc _⟩
  · have b1 : ((c : Int) != 0) = true := by rw [bne_iff_ne]; omega
    clear hc hx hc0
    go_wp2_with fail
    go_ret
    obtain ⟨f, hh⟩ := H2.out
    exact ⟨rfl, ⟨f, hh.alloc _⟩, F2.out.alloc _⟩
theorem gremBad (h : IsH w q t) (x : Int) (hx : tagA t x ≠ 1) : Calls Tryz.prog 47 #[.pointer (some ⟨q.m, 0, none⟩), .int .i64 x] w fun e w' => e = .returned (.int .i64 30) ∧ (∃ f, IsH w' q (t.fl f)) ∧ Fr q.blocks w w' := by
  have HE := rentry_no h x hx
  clear h hx
  go_enter Tryz.func47, Tryz.ntmps47
  go_wp2_with fail
  with_reducible refine HE.mono ?_
  rintro e w1 ⟨rfl, h1, f1⟩
  go_wp2_with fail
  go_ret
  exact ⟨rfl, h1, f1⟩
theorem ginsBad (h : IsH w q t) (x : Int) (hx : tagA t x ≠ 1) : Calls Tryz.prog 42 #[.pointer (some ⟨q.m, 0, none⟩), .int .i64 x] w fun e w' => e = .returned (.int .i64 30) ∧ (∃ f, IsH w' q (t.fl f)) ∧ Fr q.blocks w w' := by
  have HE := rentry_no h x hx
  clear h hx
  go_enter Tryz.func42, Tryz.ntmps42
  go_wp2_with fail
  with_reducible refine HE.mono ?_
  rintro e w1 ⟨rfl, h1, f1⟩
  go_wp2_with fail
  go_ret
  exact ⟨rfl, h1, f1⟩
-- a fault more or less: all else stays
theorem EntH.fl {y : Nat} {X : HB} (h : EntH t y X) (f : Int) : EntH (t.fl f) y X :=
  ⟨⟨h.h.tg, h.h.base, h.h.al, h.h.fit, h.h.k0, h.h.kinds, h.h.byte, h.h.lt⟩, h.ok, h.r, h.tag⟩
theorem RgI.fl {L : Nat → Prop} (h : RgI t L E R b) (f : Int) : RgI (t.fl f) L E R b :=
  ⟨⟨fl_ok h.ents.ok f, fun x hx => (h.ents.e x hx).fl f, h.ents.ap⟩, h.sub, h.nd, h.hand, h.broom, h.cnt, h.bin, h.bnil, h.cyc, h.out⟩
theorem FrL.fl {s : Nat} (f : Int) : ∀ {l : List Nat}, FrL t s l → FrL (t.fl f) s l
  | [], _ => trivial
  | _ :: _, h => ⟨h.1, h.2.1, FrL.fl f h.2.2⟩
theorem SlI.fl (h : SlI t S) (f : Int) : SlI (t.fl f) S :=
  ⟨h.ls.same' rfl (fun _ _ => rfl) (fun _ _ _ => rfl), fun i hi => ⟨(h.each i hi).h0, (h.each i hi).h1, (h.each i hi).h2, (h.each i hi).c9, (h.each i hi).z, (h.each i hi).perm, (h.each i hi).so, (h.each i hi).live, (h.each i hi).free.fl f, (h.each i hi).pk, (h.each i hi).pb⟩⟩
theorem tag_low (hok : t.Ok) : tagA t 0 = 0 := by
  have hlen : t.kinds.length = lsize t.a t.s / 4 := t.kinds_len
  have hc := cfg_sizes hok.cfg
  unfold tagA
  rw [if_neg]
  unfold kindL
  rw [if_neg (by
    rw [hlen]
    rintro (h | h)
    · omega
    · simp [fitsB] at h; omega)]
  unfold kindY
  rw [oneK_yes _ _ _ (fun y hy => by have : y = 0 := by omega
                                     rw [this, Nat.add_zero]), if_pos rfl]
  show t.kinds[0]?.getD 0 ≠ 5
  rw [t.kinds_get 0 (by omega)]
  unfold kindAt
  rw [if_pos (by decide)]
  decide
theorem GX.fl (g : GU w0 q S R b u E W) {W' : World} (h : ∃ f, IsH W' q (u.fl f)) (hf : Fr q.blocks W W') : ∃ f, GX w0 q S R b f W' := by
  obtain ⟨f, h⟩ := h
  exact ⟨f, u.fl f, E, ⟨h, g.sl.fl f, g.rg.fl f, g.a, g.s, g.f.step hf (fun k hk => .inr (g.hq k hk)), g.hq⟩, rfl⟩
/-- Nothing lies at 0: nobody is removed. -/
theorem x_rem0 (g : GX w0 q S R b ft W) : Calls Tryz.prog 47 #[.pointer (some ⟨q.m, 0, none⟩), .int .i64 0] W fun e w' => e = .returned (.int .i64 30) ∧ (∃ f, GX w0 q S R b f w') ∧ Fr q.blocks W w' := by
  obtain ⟨u, E, h, e⟩ := g
  exact (gremBad h.h 0 (by rw [tag_low h.h.m.ok]; decide)).mono fun e' w' ⟨he, h1, h2⟩ => ⟨he, GX.fl h h1 h2, h2⟩
end
end Go.Proofs.YtkapkbiccppldaaGreatDoor

/- Package ring: Move. -/
namespace Go.Proofs.YtkapkbiccppldaaGreatDoor
set_option linter.unusedVariables false
set_option linter.unusedSimpArgs false
open Go.RowKit

section
variable {w : World} {q : MH} {t : TM} {L : Nat → Prop} {E : Nat → HB}
theorem gmv1 (h : IsH w q t) (g : Ents t L E) {n x : Nat} (hn : L n) (hx : x < 4294967296) {Bm Bt : Nat} (bm : Blk w Bm 26 #[.pointer (some ⟨q.m, 0, none⟩)]) (bt : Blk w Bt 3 #[.int .i64 x]) :
    Calls Tryz.prog 224 #[.int .i64 n, .int .i64 6, .pointer (some ⟨Bm, 0, none⟩), .pointer (some ⟨Bt, 0, none⟩)] w fun e w' => e = .returned (.tuple #[]) ∧ IsH w' q (t.prv n x) ∧ Fr q.blocks w w' := by
  have HS := Lib.hid (hstP h (g.e n hn).h (g.e n hn).n0 x hx)
  have c0 := bm.cell 0
  have c1 := bt.cell 0
  simp at c0 c1
  have e1 : IntKind.u64.wrap (x : Int) = x := IntWalk.u64_in _ (by omega)
  clear h g bm bt
  go_enter Tryz.func224, Tryz.ntmps224
  go_wp2_with fail
  with_reducible refine HS.out.mono ?_
  rintro e w1 ⟨rfl, h1, f1⟩
  go_wp2_with fail
  go_end0
  exact ⟨rfl, h1, f1⟩
theorem gmv2 (h : IsH w q t) (g : Ents t L E) {n x : Nat} (hn : L n) (hx : x < 4294967296) {Bm Bt : Nat} (bm : Blk w Bm 26 #[.pointer (some ⟨q.m, 0, none⟩)]) (bt : Blk w Bt 3 #[.int .i64 x]) :
    Calls Tryz.prog 224 #[.int .i64 n, .int .i64 5, .pointer (some ⟨Bm, 0, none⟩), .pointer (some ⟨Bt, 0, none⟩)] w fun e w' => e = .returned (.tuple #[]) ∧ IsH w' q (t.nxt n x) ∧ Fr q.blocks w w' := by
  have HS := Lib.hid (hstN h (g.e n hn).h (g.e n hn).n0 x hx)
  have c0 := bm.cell 0
  have c1 := bt.cell 0
  simp at c0 c1
  have e1 : IntKind.u64.wrap (x : Int) = x := IntWalk.u64_in _ (by omega)
  clear h g bm bt
  go_enter Tryz.func224, Tryz.ntmps224
  go_wp2_with fail
  with_reducible refine HS.out.mono ?_
  rintro e w1 ⟨rfl, h1, f1⟩
  go_wp2_with fail
  go_end0
  exact ⟨rfl, h1, f1⟩
theorem garound (h : IsH w q t) (g : Ents t L E) {x n p : Nat} (hx : L x) (en : (E x).next = n) (ep : (E x).prev = p) (hn : L n) (hp : L p) {Bm Bt : Nat} (bm : Blk w Bm 26 #[.pointer (some ⟨q.m, 0, none⟩)]) (bt : Blk w Bt 3 #[.int .i64 x]) (nm : Bm ∉ q.blocks) (nt : Bt ∉ q.blocks) :
    Calls Tryz.prog 223 #[.pointer (some ⟨q.m, 0, none⟩), .int .i64 x, .func (.func 224) #[] #[.pointer (some ⟨Bm, 0, none⟩), .pointer (some ⟨Bt, 0, none⟩)]] w fun e w' => e = .returned (.tuple #[]) ∧ IsH w' q ((t.prv n x).nxt p x) ∧ Fr q.blocks w w' := by
  have lx := (g.e x hx).lt g.ok
  have HN := gnext h g hx
  have HP := Lib.hid (fun W (hW : IsH W q t) => gprev hW g hx)
  rw [en] at HN
  rw [ep] at HP
  have g2 := g.prv hn x (by omega)
  have H1 := Lib.hid (fun W (hW : IsH W q t) (b1 : Blk W Bm 26 #[.pointer (some ⟨q.m, 0, none⟩)]) (b2 : Blk W Bt 3 #[.int .i64 x]) => gmv1 hW g hn (by omega) b1 b2)
  have H2 := Lib.hid (fun W (hW : IsH W q (t.prv n x)) (b1 : Blk W Bm 26 #[.pointer (some ⟨q.m, 0, none⟩)]) (b2 : Blk W Bt 3 #[.int .i64 x]) => gmv2 hW g2 hp (by omega) b1 b2)
  have BM := Lib.hid bm
  have BT := Lib.hid bt
  clear h g g2 bm bt hx en ep hn hp lx
  go_enter Tryz.func223, Tryz.ntmps223
  go_wp2_with fail
  with_reducible refine HN.mono ?_
  rintro e w1 ⟨rfl, h1, f1⟩
  have K1 := Lib.hid h1
  have F1 := Lib.hid f1
  clear h1 f1 HN
  go_wp2_with fail
  with_reducible refine (HP.out _ K1.out).mono ?_
  rintro e w2 ⟨rfl, h2, f2⟩
  have K2 := Lib.hid h2
  have F2 := Lib.hid (F1.out.trans f2)
  clear h2 f2
  go_wp2_with fail
  with_reducible refine (H1.out _ K2.out (BM.out.fr F2.out nm) (BT.out.fr F2.out nt)).mono ?_
  rintro e w3 ⟨rfl, h3, f3⟩
  have K3 := Lib.hid h3
  have F3 := Lib.hid (F2.out.trans f3)
  clear h3 f3
  go_wp2_with fail
  with_reducible refine (H2.out _ K3.out (BM.out.fr F3.out nm) (BT.out.fr F3.out nt)).mono ?_
  rintro e w4 ⟨rfl, h4, f4⟩
  have K4 := Lib.hid h4
  have F4 := Lib.hid (F3.out.trans f4)
  clear h4 f4
  go_wp2_with fail
  go_end0
  exact ⟨rfl, K4.out, F4.out⟩
theorem gmove_1 (h : IsH w q t) (g : Ents t L E) {fr x : Nat} (hx : L x) (en : (E x).next = fr) (h0 : fr ≠ 0) (hf4 : fr < 4294967296) : Calls Tryz.prog 156 #[.pointer (some ⟨q.m, 0, none⟩), .int .i64 fr, .int .i64 x] w fun e w' => e = .returned (.int .i64 0) ∧ IsH w' q (((t.nxt x x).prv x x).rnm fr x) ∧ Fr q.blocks w w' := by
  have lx := (g.e x hx).lt g.ok
  have HE := Lib.hid (fun W (hW : IsH W q t) => rentry hW (g.e x hx))
  have HN := Lib.hid (fun W (hW : IsH W q t) => gnext hW g hx)
  rw [en] at HN
  have HJ := Lib.hid (fun W (hW : IsH W q t) => gjoin hW g hx hx)
  have HR := Lib.hid (fun W (hW : IsH W q ((t.nxt x x).prv x x)) => rren hW fr x hf4 (by omega))
  have H0 := Lib.hid ((h.alloc (.cells #[.pointer (some ⟨q.m, 0, none⟩)] 26)).alloc (.cells #[.int .i64 x] 3))
  have hlt := h.m.lt
  have nm : w.heap.size ∉ q.blocks := fun hm => by have := hlt _ hm; omega
  have nt : w.heap.size + 1 ∉ q.blocks := fun hm => by have := hlt _ hm; omega
  have b0 : ((fr : Int) == 0) = false := by simp; omega
  have b0' : (fr == 0) = false := by simp; omega
  have b1 : ((fr : Int) == fr) = true := by simp
  have BM := Lib.hid ((Blk.new w 26 #[.pointer (some ⟨q.m, 0, none⟩)]).alloc (.cells #[.int .i64 x] 3))
  have BT := Lib.hid (Blk.new (w.alloc (.cells #[.pointer (some ⟨q.m, 0, none⟩)] 26)) 3 #[.int .i64 x])
  rw [World.size_alloc] at BT
  have F0 := Lib.hid (((Fr.refl q.blocks w).alloc (.cells #[.pointer (some ⟨q.m, 0, none⟩)] 26)).alloc (.cells #[.int .i64 x] 3))
  clear h g en hx lx hlt h0
  go_enter Tryz.func156, Tryz.ntmps156
  go_wp2_with fail
  with_reducible refine (HE.out _ H0.out).mono ?_
  rintro e w1 ⟨rfl, h1, f1⟩
  have K1 := Lib.hid h1
  have F1 := Lib.hid ((Fr.refl _ _).trans f1)
  have c0 := (BM.out.fr F1.out nm).cell 0
  have c1 := (BT.out.fr F1.out nt).cell 0
  simp at c0 c1
  clear h1 f1
  go_wp2_with fail
  with_reducible refine (HN.out _ K1.out).mono ?_
  rintro e w2 ⟨rfl, h2, f2⟩
  have K2 := Lib.hid h2
  have F2 := Lib.hid (F1.out.trans f2)
  have c0 := (BM.out.fr F2.out nm).cell 0
  have c1 := (BT.out.fr F2.out nt).cell 0
  simp at c0 c1
  clear h2 f2
  go_wp2_with fail
  with_reducible refine (HJ.out _ K2.out).mono ?_
  rintro e w3 ⟨rfl, h3, f3⟩
  have K3 := Lib.hid h3
  have F3 := Lib.hid (F2.out.trans f3)
  have c0 := (BM.out.fr F3.out nm).cell 0
  have c1 := (BT.out.fr F3.out nt).cell 0
  simp at c0 c1
  clear h3 f3
  go_wp2_with fail
  with_reducible refine (HR.out _ K3.out).mono ?_
  rintro e w4 ⟨rfl, h4, f4⟩
  have K4 := Lib.hid h4
  have F4 := Lib.hid (F3.out.trans f4)
  have c0 := (BM.out.fr F4.out nm).cell 0
  have c1 := (BT.out.fr F4.out nt).cell 0
  simp at c0 c1
  clear h4 f4
  go_wp2_with fail
  go_ret
  exact ⟨rfl, K4.out, F0.out.trans F4.out⟩
theorem gmove_2 (h : IsH w q t) (g : Ents t L E) {fr x n p : Nat} (hx : L x) (en : (E x).next = n) (ep : (E x).prev = p) (hn : L n) (hp : L p) (h0 : n ≠ 0) (h1 : n ≠ fr) (hf4 : fr < 4294967296) : Calls Tryz.prog 156 #[.pointer (some ⟨q.m, 0, none⟩), .int .i64 fr, .int .i64 x] w fun e w' => e = .returned (.int .i64 0) ∧ IsH w' q (((t.prv n x).nxt p x).rnm fr x) ∧ Fr q.blocks w w' := by
  have lx := (g.e x hx).lt g.ok
  have hlt := h.m.lt
  have nm : w.heap.size ∉ q.blocks := fun hm => by have := hlt _ hm; omega
  have nt : w.heap.size + 1 ∉ q.blocks := fun hm => by have := hlt _ hm; omega
  have HE := Lib.hid (fun W (hW : IsH W q t) => rentry hW (g.e x hx))
  have HN := Lib.hid (fun W (hW : IsH W q t) => gnext hW g hx)
  rw [en] at HN
  have HJ := Lib.hid (fun W (hW : IsH W q t) bm bt => garound hW g hx en ep hn hp (Bm := w.heap.size) (Bt := w.heap.size + 1) bm bt nm nt)
  have HR := Lib.hid (fun W (hW : IsH W q ((t.prv n x).nxt p x)) => rren hW fr x hf4 (by omega))
  have H0 := Lib.hid ((h.alloc (.cells #[.pointer (some ⟨q.m, 0, none⟩)] 26)).alloc (.cells #[.int .i64 x] 3))
  have b0 : ((n : Int) == 0) = false := by simp; omega
  have b0' : (n == 0) = false := by simp; omega
  have b1 : ((n : Int) == fr) = false := by simp; omega
  have b1' : (n == fr) = false := by simp; omega
  have BM := Lib.hid ((Blk.new w 26 #[.pointer (some ⟨q.m, 0, none⟩)]).alloc (.cells #[.int .i64 x] 3))
  have BT := Lib.hid (Blk.new (w.alloc (.cells #[.pointer (some ⟨q.m, 0, none⟩)] 26)) 3 #[.int .i64 x])
  rw [World.size_alloc] at BT
  have F0 := Lib.hid (((Fr.refl q.blocks w).alloc (.cells #[.pointer (some ⟨q.m, 0, none⟩)] 26)).alloc (.cells #[.int .i64 x] 3))
  clear h g en ep hn hp hx lx hlt h0 h1
  go_enter Tryz.func156, Tryz.ntmps156
  go_wp2_with fail
  with_reducible refine (HE.out _ H0.out).mono ?_
  rintro e w1 ⟨rfl, h1, f1⟩
  have K1 := Lib.hid h1
  have F1 := Lib.hid ((Fr.refl _ _).trans f1)
  have c0 := (BM.out.fr F1.out nm).cell 0
  have c1 := (BT.out.fr F1.out nt).cell 0
  simp at c0 c1
  clear h1 f1
  go_wp2_with fail
  with_reducible refine (HN.out _ K1.out).mono ?_
  rintro e w2 ⟨rfl, h2, f2⟩
  have K2 := Lib.hid h2
  have F2 := Lib.hid (F1.out.trans f2)
  have c0 := (BM.out.fr F2.out nm).cell 0
  have c1 := (BT.out.fr F2.out nt).cell 0
  simp at c0 c1
  clear h2 f2
  go_wp2_with fail
  with_reducible refine (HJ.out _ K2.out (BM.out.fr F2.out nm) (BT.out.fr F2.out nt)).mono ?_
  rintro e w3 ⟨rfl, h3, f3⟩
  have K3 := Lib.hid h3
  have F3 := Lib.hid (F2.out.trans f3)
  have c0 := (BM.out.fr F3.out nm).cell 0
  have c1 := (BT.out.fr F3.out nt).cell 0
  simp at c0 c1
  clear h3 f3
  go_wp2_with fail
  with_reducible refine (HR.out _ K3.out).mono ?_
  rintro e w4 ⟨rfl, h4, f4⟩
  have K4 := Lib.hid h4
  have F4 := Lib.hid (F3.out.trans f4)
  have c0 := (BM.out.fr F4.out nm).cell 0
  have c1 := (BT.out.fr F4.out nt).cell 0
  simp at c0 c1
  clear h4 f4
  go_wp2_with fail
  go_ret
  exact ⟨rfl, K4.out, F0.out.trans F4.out⟩
end
end Go.Proofs.YtkapkbiccppldaaGreatDoor

/- The ring's page: an entry is copied to a new block, named by the ring, and given back. -/
namespace Go.Proofs.YtkapkbiccppldaaGreatDoor
set_option linter.unusedVariables false
set_option linter.unusedSimpArgs false
open Go.RowKit

section
variable {w0 W W' : World} {q : MH} {S S' : SS} {R A B : List Nat} {b x y n p : Nat} {t u v : TM} {L : Nat → Prop} {E E' E0 : Nat → HB} {ft : Int}
theorem nx_next (E : Nat → HB) (a v z : Nat) : (nxE E a v z).next = if z = a then v else (E z).next := by
  unfold nxE up
  by_cases h : z = a
  · rw [if_pos h, if_pos h]
  · rw [if_neg h, if_neg h]
theorem nx_prev (E : Nat → HB) (a v z : Nat) : (nxE E a v z).prev = (E z).prev := by
  unfold nxE up
  by_cases h : z = a
  · rw [if_pos h, h]
  · rw [if_neg h]
theorem pv_next (E : Nat → HB) (a v z : Nat) : (pvE E a v z).next = (E z).next := by
  unfold pvE up
  by_cases h : z = a
  · rw [if_pos h, h]
  · rw [if_neg h]
theorem pv_prev (E : Nat → HB) (a v z : Nat) : (pvE E a v z).prev = if z = a then v else (E z).prev := by
  unfold pvE up
  by_cases h : z = a
  · rw [if_pos h, if_pos h]
  · rw [if_neg h, if_neg h]
/-- The memory behind ring.Move: the entry's old block is still there. -/
structure MV (w0 : World) (q : MH) (S S' : SS) (x y : Nat) (A B : List Nat) (b : Nat) (t : TM) (E : Nat → HB) (W : World) : Prop where
  ex : ∃ u E', IsH W q u ∧ SlI u S' ∧ Ents u (fun z => z = y ∨ LvP S z) E' ∧ MovE E E' x y (A ++ x :: B) ∧ (∀ z, LvP S z → z ∉ A ++ x :: B → (E' z).next = (E z).next ∧ (E' z).prev = (E z).prev) ∧
    u.rt 13 = (if t.rt 13 = x then y else t.rt 13) ∧ u.rt 14 = (if t.rt 14 = x then y else t.rt 14) ∧ u.rt 15 = t.rt 15 ∧ u.a = 7 ∧ u.s = 224 ∧ u.ft = t.ft
  rg : RgI t (LvP S) E (A ++ x :: B) b
  new : ∃ n, TakeL 7 S S' y n
  f : Fr [] w0 W
  hq : ∀ k ∈ q.blocks, w0.heap.size ≤ k
theorem Ents.add {X : HB} (h : Ents t L E) (hx : ¬ L y) (hX : EntH t y X) (hap : ∀ z, L z → y + 32 ≤ z ∨ z + 32 ≤ y) : Ents t (fun z => z = y ∨ L z) (up E y X) := by
  have hE : ∀ z, L z → up E y X z = E z := fun z hz => up_ne _ _ (fun e => hx (e ▸ hz))
  refine ⟨h.ok, fun z hz => ?_, fun z r hz hr hne => ?_⟩
  · rcases hz with e | m
    · rw [e, up_same]; exact hX
    · rw [hE z m]; exact h.e z m
  · rcases hz with e | m <;> rcases hr with e' | m'
    · exact absurd (e.trans e'.symm) hne
    · rw [e]; exact hap r m'
    · rw [e']; exact (hap z m).symm
    · exact h.ap z r m m' hne
theorem u_move (g : GT w0 q S S' y (A ++ x :: B) b u E W) (hX : EntH u y (E x)) : Calls Tryz.prog 156 #[.pointer (some ⟨q.m, 0, none⟩), .int .i64 x, .int .i64 y] W fun e w' => e = .returned (.int .i64 0) ∧ MV w0 q S S' x y A B b u E w' ∧ Fr q.blocks W w' := by
  obtain ⟨m, lvy, h32, hl1, hl2, hl3, hap⟩ := g.lv
  have hx : x ∈ A ++ x :: B := List.mem_append.2 (.inr (List.mem_cons_self ..))
  have hxL := g.rg.sub x hx
  have hnR := (g.rg.nbr hx).1
  have hpR := (g.rg.nbr hx).2
  have ents := g.rg.ents.add hl2 hX hap
  have ey : (up E y (E x) y) = E x := up_same _ _ _
  have ez : ∀ z, LvP S z → up E y (E x) z = E z := fun z hz => up_ne _ _ (fun e => hl2 (e ▸ hz))
  have hx4 := g.rg.lt4 hxL
  have hok := g.h.m.ok
  have hLv : ∀ z, LvP S z → ∃ m, Lv u.a S' z m := fun z hz => by
    obtain ⟨m, hm⟩ := (hl3 z).2 (.inr hz)
    exact ⟨m, by rw [g.a]; exact hm⟩
  have hyne : ∀ z, LvP S z → z ≠ y := fun z hz e => hl2 (e ▸ hz)
  have hy4 : y < 4294967296 := by
    have := (hX.lt hok).1
    omega
  have hFin : ∀ w' u', u'.a = u.a → u'.s = u.s → u'.ft = u.ft → (∀ f, u'.rt f = u.rt f) → ∀ E', IsH w' q (u'.rnm x y) → Fr q.blocks W w' → SlI u' S' → Ents u' (fun z => z = y ∨ LvP S z) E' → MovE E E' x y (A ++ x :: B) →
      (∀ z, LvP S z → z ∉ A ++ x :: B → (E' z).next = (E z).next ∧ (E' z).prev = (E z).prev) → MV w0 q S S' x y A B b u E w' := fun w' u' ea es ef er E' hI hf hs he hm ho => by
    have nb := (Nbr.refl (L := fun z => z = y ∨ LvP S z) he.ok).rnm x y hy4
    obtain ⟨r1, r2, r3⟩ := rnm_rt u' x y
    exact ⟨⟨u'.rnm x y, E', hI, hs.rnm he.ok x y hy4, he.rnm x y hy4, hm, ho, by rw [r1, er], by rw [r2, er], by rw [r3, er], nb.a.trans (ea.trans g.a), nb.s.trans (es.trans g.s), nb.ft.trans ef⟩, g.rg, g.new, g.f.step hf (fun k hk => .inr (g.hq k hk)), g.hq⟩
  by_cases h0 : (E x).next = x
  · have hc := gmove_1 g.h ents (x := y) (.inl rfl) (fr := x) (by rw [ey]; exact h0) (g.rg.ne0 hxL) (by omega)
    have s1 := g.sl.rnxt hok lvy y
    have k1 := setB_ok hok (y + 8) 4 y
    have s2 := s1.rprv k1 lvy y
    have e4 := ents.join (a := y) (c := y) (.inl rfl) (.inl rfl)
    have hR : ∀ z ∈ A ++ x :: B, z = x := fun z hz => by
      have hcy := (cyc_nx g.rg.cyc).1
      rw [h0] at hcy
      have hnd' : (x :: (B ++ A)).Nodup := (List.perm_append_comm (l₁ := A) (l₂ := x :: B)).nodup_iff.1 g.rg.nd
      have hxn := List.nodup_cons.1 hnd'
      cases hC : B ++ A with
      | nil =>
        have := List.append_eq_nil_iff.1 hC
        rw [this.1, this.2] at hz
        exact List.mem_singleton.1 hz
      | cons n C =>
        rw [hC] at hcy
        exact absurd (by rw [hC]; exact (show x = n from hcy) ▸ List.mem_cons_self ..) hxn.1
    refine hc.mono fun e w' ⟨he, k, kf⟩ => ⟨he, hFin w' ((u.nxt y y).prv y y) rfl rfl rfl (fun _ => rfl) _ k kf s2 e4 ⟨?_, ?_, fun z hz hne => absurd (hR z hz) hne, fun z hz hne => absurd (hR z hz) hne⟩ (fun z hz hn => ?_), kf⟩
    · rw [jn_next, if_pos rfl, if_pos h0]
    · rw [jn_prev, if_pos rfl, if_pos h0]
    · rw [jn_next, jn_prev, if_neg (hyne z hz), if_neg (hyne z hz), ez z hz]; exact ⟨rfl, rfl⟩
  · have hnL := g.rg.sub _ hnR
    have hpL := g.rg.sub _ hpR
    have hc := gmove_2 g.h ents (x := y) (fr := x) (n := (E x).next) (p := (E x).prev) (.inl rfl) (by rw [ey]) (by rw [ey]) (.inr hnL) (.inr hpL) (g.rg.ne0 hnL) h0 (by omega)
    obtain ⟨m1, lvn⟩ := hLv _ hnL
    obtain ⟨m2, lvp⟩ := hLv _ hpL
    have s1 := g.sl.rprv hok lvn y
    have k1 := setB_ok hok ((E x).next + 12) 4 y
    have s2 := s1.rnxt k1 lvp y
    have e4 := (ents.prv (x := (E x).next) (.inr hnL) y hy4).nxt (x := (E x).prev) (.inr hpL) y hy4
    have q1 : y ≠ (E x).prev := (hyne _ hpL).symm
    have q2 : y ≠ (E x).next := (hyne _ hnL).symm
    refine hc.mono fun e w' ⟨he, k, kf⟩ => ⟨he, hFin w' ((u.prv (E x).next y).nxt (E x).prev y) rfl rfl rfl (fun _ => rfl) _ k kf s2 e4 ⟨?_, ?_, fun z hz hne => ?_, fun z hz hne => ?_⟩ (fun z hz hn => ?_), kf⟩
    · rw [nx_next, if_neg q1, pv_next, ey, if_neg h0]
    · rw [nx_prev, pv_prev, if_neg q2, ey, if_neg h0]
    · rw [nx_next, pv_next, ez z (g.rg.sub z hz)]
    · rw [nx_prev, pv_prev, ez z (g.rg.sub z hz)]
    · have z1 : z ≠ (E x).prev := fun e => hn (e ▸ hpR)
      have z2 : z ≠ (E x).next := fun e => hn (e ▸ hnR)
      rw [nx_next, nx_prev, pv_next, pv_prev, if_neg z1, if_neg z2, ez z hz]; exact ⟨rfl, rfl⟩
/-- The old block is given back. -/
theorem mv_give (h : MV w0 q S S' x y A B b t E W) (ht : t.ft = ft) : Calls Tryz.prog 25 #[.pointer (some ⟨q.m, 0, none⟩), .int .i64 x] W fun e w' => e = .returned (.int .i64 0) ∧ Fr q.blocks W w' ∧ ∃ S2, GX w0 q S2 (A ++ y :: B) (if b = x then y else b) ft w' ∧ ∀ z, LvP S2 z ↔ z = y ∨ LvP S z ∧ z ≠ x := by
  obtain ⟨u, E', hI, hs, he, hm, ho, r1, r2, r3, ea, es, ef⟩ := h.ex
  obtain ⟨m, tl⟩ := h.new
  have hx : x ∈ A ++ x :: B := List.mem_append.2 (.inr (List.mem_cons_self ..))
  have hxL := h.rg.sub x hx
  have hny : ¬ LvP S y := fun ⟨m, hm⟩ => (tl.old y m hm).2 rfl
  have hlv : ∀ z, LvP S' z ↔ z = y ∨ LvP S z := fun z => ⟨fun ⟨m, hm⟩ => (tl.all z m hm).imp id (fun h => ⟨m, h⟩), fun h => by
    rcases h with e | ⟨m, hm⟩
    · rw [e]; exact ⟨_, tl.new⟩
    · exact ⟨m, (tl.old z m hm).1⟩⟩
  obtain ⟨m2, hx'⟩ := (hlv x).2 (.inr hxL)
  have lvx : Lv u.a S' x m2 := by rw [ea]; exact hx'
  obtain ⟨S2, e1, e2⟩ := give_plain' hs he.ok lvx
  have hc := sgive hI hs x
  rw [e1] at hc
  have hl : ∀ z, LvP S2 z ↔ z = y ∨ LvP S z ∧ z ≠ x := fun z => by
    unfold LvP
    rw [ea] at e2
    have hyx : y ≠ x := fun e => hny (e ▸ hxL)
    constructor
    · rintro ⟨m, hm⟩
      obtain ⟨h1, h2⟩ := (e2 z m).1 hm
      rcases (hlv z).1 ⟨m, h1⟩ with e | h3
      · exact .inl e
      · exact .inr ⟨h3, h2⟩
    · rintro (e | ⟨h1, h2⟩)
      · obtain ⟨m, hm⟩ := (hlv z).2 (.inl e)
        exact ⟨m, (e2 z m).2 ⟨hm, by rw [e]; exact hyx⟩⟩
      · obtain ⟨m, hm⟩ := (hlv z).2 (.inr h1)
        exact ⟨m, (e2 z m).2 ⟨hm, h2⟩⟩
  refine hc.mono fun e' w' ⟨he', v, k1, k2, k3, k4, k5⟩ => ⟨he', k5, S2, ⟨v, E', ⟨k1, k2, ?_, k3.a.trans ea, k3.s.trans es, h.f.step k5 (fun k hk => .inr (h.hq k hk)), h.hq⟩, k3.ft.trans (ef.trans ht)⟩, hl⟩
  refine h.rg.mov (u := v) (L' := LvP S2) ⟨k1.m.ok, fun z hz => ?_, fun z r hz hr hne => ?_⟩ hl hny hm ho ?_ ?_ ?_
  · have hz1 : z = y ∨ LvP S z := ((hl z).1 hz).imp id (fun h => h.1)
    have hz2 : z ≠ x := fun e => by
      rcases (hl z).1 hz with e' | ⟨_, h2⟩
      · exact hny (e' ▸ e ▸ hxL)
      · exact h2 e
    obtain ⟨m, hm⟩ := hz
    have hm' : Lv v.a S2 z m := by rw [k3.a, ea]; exact hm
    obtain ⟨b1, b2, b3, b4, b5, b6, b7⟩ := lv_at k2 k1.m.ok hm'
    have hm0 : Lv u.a S' z m := ((e2 z m).1 (by rw [ea]; exact hm)).1
    refine (he.e z hz1).keep k3.a k3.s (fun g g1 g2 => b7 g g1 (by omega)) (fun k hk => ?_)
    obtain ⟨i, hi, hzi, rfl⟩ := hm0
    exact k4 i hi z hzi (fun _ e => hz2 (by omega)) k (by omega)
  · exact he.ap z r (((hl z).1 hz).imp id (fun h => h.1)) (((hl r).1 hr).imp id (fun h => h.1)) hne
  · rw [k3.rt 13 (.inr (by decide)), r1]
  · rw [k3.rt 14 (.inr (by decide)), r2]
  · rw [k3.rt 15 (.inr (by decide)), r3]
end
end Go.Proofs.YtkapkbiccppldaaGreatDoor

/- The ring's page: move. -/
namespace Go.Proofs.YtkapkbiccppldaaGreatDoor
set_option linter.unusedVariables false
set_option linter.unusedSimpArgs false
open Go.RowKit

section
variable {w0 W W' : World} {q : MH} {S S' : SS} {R A B : List Nat} {b x y n p : Nat} {t u v : TM} {L : Nat → Prop} {E E' E0 : Nat → HB} {ft : Int}
theorem take_full0 {c : Int} (h : (takeS 7 (lbase 7 224) S c).2.1 ≠ 0) (hc : 1 ≤ c ∧ c ≤ 9) : lst 7 S.inn 0 = [] := by
  have hz : cszZ c ≠ 0 := by
    have : c = 1 ∨ c = 2 ∨ c = 3 ∨ c = 4 ∨ c = 5 ∨ c = 6 ∨ c = 7 ∨ c = 8 ∨ c = 9 := by omega
    rcases this with rfl | rfl | rfl | rfl | rfl | rfl | rfl | rfl | rfl <;> decide
  unfold takeS at h
  rw [if_neg hz] at h
  split at h
  · exact absurd rfl h
  · split at h
    · exact absurd rfl h
    · next h0 =>
      cases hl : lst 7 S.inn 0 with
      | nil => rfl
      | cons a l => rw [hl] at h0; exact absurd (by unfold hd1; simp) h0
theorem right_cls (X : HB) (hr : X.right = true) (ht : X.tag = 1) : 1 ≤ X.cls ∧ X.cls ≤ 9 := by
  unfold HB.right at hr
  rw [ht] at hr
  simp [rightT] at hr
  omega
/-- What move answers, both ways. -/
def MoP (w0 : World) (q : MH) (S : SS) (A B : List Nat) (x b : Nat) (ft : Int) (y : Nat) (w' : World) : Prop :=
  (y = 0 ∧ lst 7 S.inn 0 = [] ∧ GX w0 q S (A ++ x :: B) b ft w') ∨
  (0 < y ∧ y < 1048576 ∧ ¬ LvP S y ∧ ∃ S2, GX w0 q S2 (A ++ y :: B) (if b = x then y else b) ft w' ∧ ∀ z, LvP S2 z ↔ z = y ∨ LvP S z ∧ z ≠ x)
set_option maxRecDepth 100000 in
set_option maxHeartbeats 4000000 in
theorem x_move (g : GX w0 q S (A ++ x :: B) b ft W) : Calls Tryz.prog 61 #[.pointer (some ⟨q.m, 0, none⟩), .int .i64 x] W fun e w' => ∃ y : Nat, e = .returned (.int .i64 y) ∧ Fr q.blocks W w' ∧ MoP w0 q S A B x b ft y w' := by
  obtain ⟨u, E, h, e⟩ := g
  have hx : x ∈ A ++ x :: B := List.mem_append.2 (.inr (List.mem_cons_self ..))
  have hE := h.rg.ents.e x (h.rg.sub x hx)
  have hcl := right_cls (E x) hE.r hE.tag
  have HG := Lib.hid (show Calls Tryz.prog 72 #[.pointer (some ⟨q.m, 0, none⟩), .int .i64 x] W fun e w' => e = .returned (.tuple #[.agg #[.int .i64 1, .int .i64 (E x).cls, .bool (E x).used, .int .i64 (E x).label, .int .u32 (E x).name, .int .u32 (E x).next, .int .u32 (E x).prev, .int .u32 (E x).refs, .int .u64 (E x).expiry, .int .u16 (E x).typ, .int .i64 (E x).size, .int .u32 (E x).hash], .int .i64 0]) ∧ GU w0 q S (A ++ x :: B) b u E w' ∧ Fr q.blocks W w' from by
    have := hget W q u h.h x 1 5 (E x) hE.h hE.ok hE.r hE.tag (.inl ⟨rfl, hE.n0⟩) (.inl rfl)
    unfold GetP HB.val HB.cells at this
    rw [hE.tag] at this
    exact this.mono fun e w' ⟨he, k1, k2⟩ => ⟨he, h.go k2 k1 h.sl h.rg rfl rfl, k2⟩)
  have HT := Lib.hid (fun V (hV : GU w0 q S (A ++ x :: B) b u E V) => u_take hV (E x).cls)
  have HPU := Lib.hid (fun V v (hV : GT w0 q S (takeS 7 (lbase 7 224) S (E x).cls).2.2 (takeS 7 (lbase 7 224) S (E x).cls).1 (A ++ x :: B) b v E V) => (show Calls Tryz.prog 125 #[.pointer (some ⟨q.m, 0, none⟩), .int .i64 (takeS 7 (lbase 7 224) S (E x).cls).1, .agg #[.int .i64 1, .int .i64 (E x).cls, .bool (E x).used, .int .i64 (E x).label, .int .u32 (E x).name, .int .u32 (E x).next, .int .u32 (E x).prev, .int .u32 (E x).refs, .int .u64 (E x).expiry, .int .u16 (E x).typ, .int .i64 (E x).size, .int .u32 (E x).hash]] V fun e w' => e = .returned (.int .i64 0) ∧ Fr q.blocks V w' ∧ ∃ v', GT w0 q S (takeS 7 (lbase 7 224) S (E x).cls).2.2 (takeS 7 (lbase 7 224) S (E x).cls).1 (A ++ x :: B) b v' E w' ∧ EntH v' (takeS 7 (lbase 7 224) S (E x).cls).1 (E x) ∧ v'.ft = v.ft from by
    have := u_put hV (E x) hE.ok hE.r hE.tag
    unfold HB.val HB.cells at this
    rw [hE.tag] at this
    exact this.mono fun e w' ⟨he, k1, k2, k3⟩ => ⟨he, k1, _, k2, k3, (putH_rest v _ (E x).num 12).2.2.2.1⟩))
  have HFU := Lib.hid (fun (hr : (takeS 7 (lbase 7 224) S (E x).cls).2.1 ≠ 0) => take_full0 hr hcl)
  have HGT := Lib.hid (fun V v (hV : GT w0 q S (takeS 7 (lbase 7 224) S (E x).cls).2.2 (takeS 7 (lbase 7 224) S (E x).cls).1 (A ++ x :: B) b v E V) => (show ¬ LvP S (takeS 7 (lbase 7 224) S (E x).cls).1 from by
    obtain ⟨_, _, _, _, h2, _, _⟩ := hV.lv
    exact h2))
  have HQ := Lib.hid (show ∀ y w', MoP w0 q S A B x b ft y w' = ((y = 0 ∧ lst 7 S.inn 0 = [] ∧ GX w0 q S (A ++ x :: B) b ft w') ∨
  (0 < y ∧ y < 1048576 ∧ ¬ LvP S y ∧ ∃ S2, GX w0 q S2 (A ++ y :: B) (if b = x then y else b) ft w' ∧ ∀ z, LvP S2 z ↔ z = y ∨ LvP S z ∧ z ≠ x)) from fun _ _ => rfl)
  have HE := Lib.hid e
  have HBX := Lib.hid (show (∀ V f, Fr q.blocks W V → W.heap.size ≤ f → f ∉ q.blocks) from fun V f _ hf hm => by have := h.h.m.lt f hm; omega)
  unfold TkP at HT
  generalize MoP w0 q S A B x b ft = Q at *
  generalize hS' : (takeS 7 (lbase 7 224) S (E x).cls).2.2 = S' at *
  generalize hr : (takeS 7 (lbase 7 224) S (E x).cls).2.1 = r at *
  generalize hy : (takeS 7 (lbase 7 224) S (E x).cls).1 = y at *
  have HMV := Lib.hid (fun V v (hV : GT w0 q S S' y (A ++ x :: B) b v E V) (hX : EntH v y (E x)) => u_move hV hX)
  generalize (E x) = X at *
  obtain ⟨tag, cls, used, label, name, next, prev, refs, expiry, typ, size, hash⟩ := X
  simp only at HG HT HPU HFU hcl
  clear h e hS' hr hy hE hx
  go_enter Tryz.func61, Tryz.ntmps61
  go_wp2_with fail
  with_reducible refine HG.out.mono ?_
  rintro e w1 ⟨rfl, h1, f1⟩
  have FA := ((Fr.refl [] w1).alloc (.cells #[.int .i64 1, .int .i64 cls, .bool used, .int .i64 label, .int .u32 name, .int .u32 next, .int .u32 prev, .int .u32 refs, .int .u64 expiry, .int .u16 typ, .int .i64 size, .int .u32 hash] 101))
  have G1 := Lib.hid (h1.fr0 FA)
  have F1 := Lib.hid (f1.trans FA.nil)
  have nb := HBX.out w1 w1.heap.size f1 f1.size
  have B1 := Lib.hid (Blk.new w1 101 #[.int .i64 1, .int .i64 cls, .bool used, .int .i64 label, .int .u32 name, .int .u32 next, .int .u32 prev, .int .u32 refs, .int .u64 expiry, .int .u16 typ, .int .i64 size, .int .u32 hash])
  clear h1 f1 FA HG
  go_wp2_with fail
  with_reducible refine (HT.out _ G1.out).mono ?_
  rintro e w2 ⟨rfl, f2, hT⟩
  have F2 := Lib.hid (F1.out.trans f2)
  have hb2 := B1.out.fr f2 nb
  have B2 := Lib.hid hb2
  (have c0 := hb2.cell 0; have c1 := hb2.cell 1; have c2 := hb2.cell 2; have c3 := hb2.cell 3; have c4 := hb2.cell 4; have c5 := hb2.cell 5; have c6 := hb2.cell 6; have c7 := hb2.cell 7; have c8 := hb2.cell 8; have c9 := hb2.cell 9; have c10 := hb2.cell 10; have c11 := hb2.cell 11; simp [HB.cells] at c0 c1 c2 c3 c4 c5 c6 c7 c8 c9 c10 c11)
  clear f2 HT G1 B1 F1 hb2
  rcases hT with ⟨h0, v, g1, ef⟩ | ⟨h0, c1, c9, v, g1, ef⟩
  · have hr0 : ((r : Int) != 0) = true := by simp; omega
    have K1 := Lib.hid g1
    have EF := Lib.hid (ef.trans HE.out)
    have FU := Lib.hid (HFU.out h0)
    clear g1 ef h0 HPU HGT HMV HFU
    go_wp2_with fail
    go_ret
    exact ⟨0, rfl, F2.out, by rw [HQ.out]; exact .inl ⟨rfl, FU.out, ⟨v, E, K1.out, EF.out⟩⟩⟩
  · subst h0
    have HN := Lib.hid (HGT.out _ _ g1)
    have K1 := Lib.hid g1
    have EF := Lib.hid (ef.trans HE.out)
    clear g1 ef HGT c1 c9
    go_wp2_with fail
    with_reducible refine (HPU.out _ _ K1.out).mono ?_
    rintro e w3 ⟨rfl, f3, v', g3, hX, ef3⟩
    have F3 := Lib.hid (F2.out.trans f3)
    have EF3 := Lib.hid (ef3.trans EF.out)
    have HM := HMV.out _ _ g3 hX
    clear c0 c1 c2 c3 c4 c5 c6 c7 c8 c9 c10 c11
    clear f3 g3 hX ef3 HPU K1 HMV B2 F2
    go_wp2_with fail
    with_reducible refine HM.mono ?_
    rintro e w4 ⟨rfl, h4, f4⟩
    have F4 := Lib.hid (F3.out.trans f4)
    have HG4 := mv_give h4 EF3.out
    clear f4 h4 HM F3
    go_wp2_with fail
    with_reducible refine HG4.mono ?_
    rintro e w5 ⟨rfl, f5, S2, g5, hl⟩
    have F5 := Lib.hid (F4.out.trans f5)
    have G5 := Lib.hid g5
    have HL := Lib.hid hl
    clear f5 g5 hl HG4 F4
    go_wp2_with fail
    go_ret
    have hp := G5.out.pos (List.mem_append.2 (.inr (List.mem_cons_self ..)))
    exact ⟨y, rfl, F5.out, by rw [HQ.out]; exact .inr ⟨hp.1, hp.2, HN.out, S2, G5.out, HL.out⟩⟩
end
end Go.Proofs.YtkapkbiccppldaaGreatDoor
