/- Several texts in one. -/
import Derived.Test.YtkapkbiccppldaaGreatDoorGI
import Derived.Test.YtkapkbiccppldaaGreatDoorGP
import Derived.Test.YtkapkbiccppldaaGreatDoorGA
import Derived.Test.YtkapkbiccppldaaGreatDoorGN
import Derived.Test.YtkapkbiccppldaaGreatDoorGK
import Derived.Test.YtkapkbiccppldaaGreatDoorGG
/- Slabs whose live blocks hold a text: what a memory has. Plain words and contracts. -/
namespace Go.Proofs.YtkapkbiccppldaaGreatDoor
set_option linter.unusedVariables false
set_option linter.unusedSimpArgs false
open Go.RowKit

/-- "something here, of thirty bytes", "something". -/
def txt : List Nat := [115, 111, 109, 101, 116, 104, 105, 110, 103, 32, 104, 101, 114, 101, 44, 32, 111, 102, 32, 116, 104, 105, 114, 116, 121, 32, 98, 121, 116, 101, 115]
def txt9 : List Nat := [115, 111, 109, 101, 116, 104, 105, 110, 103]
def txtF (j : Nat) : Nat := txt[j]?.getD 0
/-- All live blocks but those that P bars hold the text. -/
structure C15 (wb W : World) (q : MH) (z : TM) (S : SS) (P : Nat → Prop) : Prop where
  x : ∃ u, IsH W q u ∧ SlI u S ∧ Sla z u ∧ ∀ x n, Lv z.a S x n → ¬ P x → ByOn u x 31 txtF
  f : Fr q.blocks wb W
  lt : ∀ k ∈ q.blocks, k < wb.heap.size
  g : 5 ≤ wb.heap.size
section
variable {wb W W' : World} {q : MH} {z : TM} {S : SS} {P : Nat → Prop}
theorem C15.fr0 (h : C15 wb W q z S P) (hf : Fr [] W W') : C15 wb W' q z S P := by
  obtain ⟨u, h1, h2⟩ := h.x
  exact ⟨⟨u, h1.fr0 hf, h2⟩, h.f.step hf (by simp), h.lt, h.g⟩
theorem C15.fr1 (h : C15 wb W q z S P) {g : Nat} (hf : Fr [g] W W') (hg : wb.heap.size ≤ g) : C15 wb W' q z S P := by
  obtain ⟨u, h1, h2⟩ := h.x
  exact ⟨⟨u, h1.fr1 hf (fun hm => by have := h.lt g hm; omega) (Nat.le_trans h.g hg), h2⟩, h.f.step hf (fun k hk => by simp at hk; subst hk; exact .inr hg), h.lt, h.g⟩
theorem C15.own {v : Value} (h : C15 wb W q z S P) (hf : Fr (ownS v) W W') (hv : ∀ g, v.ownBlock = some g → wb.heap.size ≤ g) : C15 wb W' q z S P := by
  unfold ownS at hf
  rcases hb : v.ownBlock with _ | g
  · rw [hb] at hf; exact h.fr0 hf
  · rw [hb] at hf
    exact h.fr1 hf (hv g hb)
theorem Keep.by31 {t u : TM} {Q : Nat → Prop} (h : Keep t u S Q) {x n : Nat} (hx : Lv t.a S x n) (hp : Q x) {f : Nat → Nat} (hn : 31 ≤ n) (hb : ByOn t x 31 f) : ByOn u x 31 f := by
  obtain ⟨i, hi, hm, e⟩ := hx
  intro j hj
  rw [h i hi x hm hp j (by omega)]
  exact hb j hj
theorem c_take (h : C15 wb W q z S (fun _ => False)) (c : Int) : Calls Tryz.prog 18 #[.pointer (some ⟨q.m, 0, none⟩), .int .i64 c] W fun e w' => ∃ x r : Nat, e = .returned (.tuple #[.int .i64 x, .int .i64 r]) ∧ Fr q.blocks W w' ∧ ((r ≠ 0 ∧ C15 wb w' q z S (fun _ => False)) ∨ (r = 0 ∧ ∃ S', (∃ n, Lv z.a S' x n) ∧ C15 wb w' q z S' (fun y => y = x))) := by
  obtain ⟨u, h1, h2, h3, h4⟩ := h.x
  refine (stake h1 h2 c).mono fun e w' ⟨he, v, k1, k2, k3, k4, k5, k6⟩ => ⟨_, _, he, k6, ?_⟩
  by_cases h0 : (takeS u.a (lbase u.a u.s) S c).2.1 = 0
  · obtain ⟨_, _, t1⟩ := take_plain h2 h1.ok c h0
    refine .inr ⟨h0, _, ⟨_, by rw [← h3.a]; exact t1.new⟩, ⟨⟨v, k1, k2, h3.trans k3, fun x n hx hne => ?_⟩, h.f.trans k6, h.lt, h.g⟩⟩
    rw [← h3.a] at hx
    rcases t1.all _ _ hx with e | hl
    · exact absurd e hne
    · exact k4.by31 hl (fun _ => hne) (by have := lv_at h2 h1.ok hl; omega) (h4 x n (by rw [← h3.a]; exact hl) id)
  · have e := take_none u.a (lbase u.a u.s) S c h0
    rw [e] at k2
    refine .inl ⟨h0, ⟨⟨v, k1, k2, h3.trans k3, fun x n hx hne => ?_⟩, h.f.trans k6, h.lt, h.g⟩⟩
    have hx' := hx
    rw [← h3.a] at hx
    exact k4.by31 hx (fun h => absurd h h0) (by have := lv_at h2 h1.ok hx; omega) (h4 x n hx' id)
theorem c_write (x : Nat) (h : C15 wb W q z S (fun y => y = x)) (hx : ∃ n, Lv z.a S x n) (g c : Nat) (hb : Byt W (some ⟨g, 0, none⟩) txt) (hg : wb.heap.size ≤ g) : Calls Tryz.prog 24 #[.pointer (some ⟨q.m, 0, none⟩), .int .i64 x, .slice (some ⟨g, 0, none⟩) 31 c, .int .i64 5] W fun e w' => e = .returned (.bool true) ∧ C15 wb w' q z S (fun _ => False) ∧ Fr q.blocks W w' := by
  obtain ⟨u, h1, h2, h3, h4⟩ := h.x
  obtain ⟨n, hl⟩ := hx
  rw [← h3.a] at hl
  obtain ⟨b1, b2, b3, b4, b5, b6, b7⟩ := lv_at h2 h1.ok hl
  have hf : ∀ j, j < txt.length → txt[j]?.getD 0 < 256 := fun j hj => by
    rw [List.getElem?_eq_getElem hj]
    exact hb.byte _ (List.getElem_mem hj)
  refine (twrite h1.m x n 5 c (some ⟨g, 0, none⟩) txt hb (fun g' o e => ?_) b1 b6 b7 (by omega) (by omega) (by show 31 ≤ n; omega) (by decide) x 5 rfl rfl).mono fun e w' ⟨he, k1, k2⟩ => ⟨he, ⟨⟨_, h1.step k1 k2, h2.write h1.ok hl (by show 31 ≤ n; omega) _ hf, ⟨h3.a, h3.s, h3.sl, h3.ft, h3.rt⟩, fun y m hy _ => ?_⟩, h.f.trans k2, h.lt, h.g⟩, k2⟩
  · injection e with e
    injection e with e1 e2
    subst e1
    rintro rfl
    have := h.lt q.pw (by simp [MH.blocks])
    omega
  · by_cases e : y = x
    · subst e
      exact setF_on h1.ok y 31 _ hf b1
    · have hy' := hy
      rw [← h3.a] at hy'
      have hap := lv_apart h2 h1.ok hy' hl e
      have hb2 := (lv_at h2 h1.ok hy').1
      have hn2 := (lv_at h2 h1.ok hy').2.2.2.1
      exact (h4 y m hy e).out (setF_out h1.ok x 31 _ hf b1) hb2 (by omega)
theorem c_give (h : C15 wb W q z S (fun _ => False)) (x : Int) : Calls Tryz.prog 25 #[.pointer (some ⟨q.m, 0, none⟩), .int .i64 x] W fun e w' => ∃ r : Nat, e = .returned (.int .i64 r) ∧ Fr q.blocks W w' ∧ ∃ S', C15 wb w' q z S' (fun _ => False) := by
  obtain ⟨u, h1, h2, h3, h4⟩ := h.x
  refine (sgive h1 h2 x).mono fun e w' ⟨he, v, k1, k2, k3, k4, k6⟩ => ⟨_, he, k6, _, ⟨⟨v, k1, k2, h3.trans k3, fun y n hy _ => ?_⟩, h.f.trans k6, h.lt, h.g⟩⟩
  rw [← h3.a] at hy
  by_cases hlive : ∃ y : Nat, (y : Int) = x ∧ ∃ n, Lv u.a S y n
  · obtain ⟨y0, rfl, n0, hl⟩ := hlive
    obtain ⟨S', g1, g2⟩ := give_plain' h2 h1.ok hl
    rw [g1] at hy k4
    obtain ⟨hy1, hy2⟩ := (g2 y n).1 hy
    exact k4.by31 hy1 (fun _ hc => hy2 (by omega)) (by have := lv_at h2 h1.ok hy1; omega) (h4 y n (by rw [← h3.a]; exact hy1) id)
  · have hn := give_not h2 h1.ok x (fun y n hl hc => hlive ⟨y, hc, n, hl⟩)
    rw [hn] at hy k4
    exact k4.by31 hy (fun h => by cases h) (by have := lv_at h2 h1.ok hy; omega) (h4 y n (by rw [← h3.a]; exact hy) id)
end
end Go.Proofs.YtkapkbiccppldaaGreatDoor

/- What a memory with slabs has among its bytes; where free blocks lie. Plain words. -/
namespace Go.Proofs.YtkapkbiccppldaaGreatDoor
set_option linter.unusedVariables false
set_option linter.unusedSimpArgs false
open Go.RowKit

theorem byteAt_slab {t : TM} (h : t.Ok) {i : Nat} (hi : lbase t.a t.s ≤ i) (hi2 : i < lsize t.a t.s) : ∃ k, k < t.a ∧ sla t k ≤ i ∧ i < sla t k + 1024 := by
  refine ⟨(i - lbase t.a t.s) / 1024, ?_, ?_, ?_⟩
  · unfold lsize at hi2; omega
  · unfold sla; omega
  · unfold sla; omega
/-- Where a place lies in its slab: a block, or what is left. -/
theorem in_slab {t : TM} {S : SS} (hok : t.Ok) (hs : SlI t S) {k i : Nat} (hk : k < t.a) (h1 : sla t k ≤ i) (h2 : i < sla t k + 1024) (h0 : S.cls k ≠ 0) :
    (∃ x, (x ∈ S.fr k ∨ x ∈ S.lv k) ∧ x ≤ i ∧ i < x + csz (S.cls k)) ∨ sla t k + csz (S.cls k) * nbk (S.cls k) ≤ i := by
  have h := hs.each k hk
  obtain ⟨c1, c2, c3, c4, c5, c6, c7⟩ := csz_tab (S.cls k) (by omega) h.c9
  rcases Nat.lt_or_ge i (sla t k + csz (S.cls k) * nbk (S.cls k)) with hl | hl
  · left
    have hj : (i - sla t k) / csz (S.cls k) < nbk (S.cls k) := by
      rw [Nat.div_lt_iff_lt_mul (by omega), Nat.mul_comm]
      omega
    refine ⟨adr t k (S.cls k) ((i - sla t k) / csz (S.cls k)), h.mem' h0 hj, ?_, ?_⟩
    · unfold adr
      have := Nat.mul_div_le (i - sla t k) (csz (S.cls k))
      omega
    · unfold adr
      have := Nat.lt_mul_div_succ (i - sla t k) (show 0 < csz (S.cls k) by omega)
      rw [Nat.mul_add, Nat.mul_one] at this
      omega
  · exact .inr hl
theorem FrL.by_ {t : TM} {s : Nat} : ∀ {l : List Nat}, FrL t s l → ∀ x ∈ l, ∃ n, ByOn t x s (lnkB n) ∧ (n = 0 ∨ n ∈ l)
  | [], _, x, hx => by cases hx
  | y :: l, h, x, hx => by
    rcases List.mem_cons.1 hx with rfl | hx
    · refine ⟨l.headD 0, h.2.1, ?_⟩
      rcases l with _ | ⟨z, l⟩
      · exact .inl rfl
      · exact .inr (by simp)
    · obtain ⟨n, h1, h2⟩ := FrL.by_ h.2.2 x hx
      exact ⟨n, h1, h2.imp id (List.mem_cons_of_mem _)⟩
theorem nb3 {v : Nat} (h : v < 16777216) : nb v 3 = 0 := by unfold nb; omega
theorem lnk_lt {t : TM} {S : SS} (hok : t.Ok) (hs : SlI t S) {k x : Nat} (hk : k < t.a) (hx : x ∈ S.fr k) : ∃ n, n < 16777216 ∧ ByOn t x (csz (S.cls k)) (lnkB n) := by
  have h := hs.each k hk
  obtain ⟨n, h1, h2⟩ := FrL.by_ h.free x hx
  refine ⟨n, ?_, h1⟩
  rcases h2 with rfl | h2
  · decide
  · obtain ⟨a1, a2, a3, a4, a5, a6, a7⟩ := h.at_ hok hk (.inl h2)
    have := sla_ok hok k hk
    omega
theorem heads_lt {t : TM} {S : SS} (hok : t.Ok) (hs : SlI t S) {k : Nat} (hk : k < t.a) : t.hd k 1 < 256 ∧ t.hd k 2 < 16777216 ∧ t.hd k 3 < 16777216 ∧ t.hd k 4 < 16777216 := by
  have h := hs.each k hk
  have ha := hok.cfg.a2
  refine ⟨?_, ?_, ?_⟩
  · rw [h.h1]
    by_cases h0 : S.cls k = 0
    · rw [(h.z h0).2.1]; decide
    · have := h.len h0
      have := (csz_mul (S.cls k) h.c9).2.2
      omega
  · rw [h.h2]
    rcases hf : S.fr k with _ | ⟨x, l⟩
    · decide
    · obtain ⟨a1, a2, a3, a4, a5, a6, a7⟩ := h.at_ hok hk (.inl (by rw [hf]; simp : x ∈ S.fr k))
      have := sla_ok hok k hk
      simp
      omega
  · by_cases hn : S.inn k < 0
    · obtain ⟨e1, e2⟩ := hs.ls.out k hk hn
      rw [e1, e2]; decide
    · have hle := (hs.ls.le k hk).2
      obtain ⟨c, hc⟩ : ∃ c : Nat, S.inn k = c := ⟨(S.inn k).toNat, by omega⟩
      have hm := lst_mem (a := t.a) (c := c) hk hc
      obtain ⟨l1, l2, e⟩ := List.append_of_mem hm
      obtain ⟨e1, e2⟩ := hs.ls.next (c := c) (by omega) e
      have hlt : ∀ y ∈ lst t.a S.inn c, y < t.a := fun y hy => (lst_lt hy).1
      rw [e1, e2]
      constructor
      · rcases l2 with _ | ⟨y, l2⟩
        · decide
        · have := hlt y (by rw [e]; simp)
          simp [hd1]
          omega
      · rcases List.eq_nil_or_concat l1 with rfl | ⟨l1, y, rfl⟩
        · decide
        · have := hlt y (by rw [e]; simp)
          rw [List.concat_eq_append, pv_snoc]
          omega
/-- The first words of a memory, as it was made. -/
structure Z15 (z : TM) : Prop where
  r0 : z.rt 0 = 1129270338
  r1 : ∀ f, (1 ≤ f ∧ f < 3) ∨ 12 < f → z.rt f < 16777216
  sl : ∀ i, z.sl i = 0
theorem nbj {v j : Nat} (h : v < 16777216) (hj : 3 ≤ j) : nb v j = 0 := by
  unfold nb
  have : v < 256 ^ j := Nat.lt_of_lt_of_le (show v < 256 ^ 3 from h) (Nat.pow_le_pow_right (by decide) hj)
  rw [Nat.div_eq_of_lt this]
theorem rt_lt {z t : TM} {S : SS} (hok : t.Ok) (hs : SlI t S) (hz : Sla z t) (h : Z15 z) (f : Nat) : t.rt f = 1129270338 ∧ f = 0 ∨ t.rt f < 16777216 := by
  have ha := hok.cfg.a2
  by_cases h1 : f < 3 ∨ 12 < f
  · rw [hz.rt f h1]
    by_cases h0 : f = 0
    · exact .inl ⟨by rw [h0]; exact h.r0, h0⟩
    · exact .inr (h.r1 f (by omega))
  · right
    have e := hs.ls.root (c := f - 3) (by omega)
    rw [show 3 + (f - 3) = f by omega] at e
    rw [e]
    have := hd1_le t.a S.inn (f - 3)
    omega
set_option maxHeartbeats 1000000 in
theorem low3 {z t : TM} {S : SS} (hok : t.Ok) (hs : SlI t S) (hno : ∀ i, i < t.a → S.lv i = []) (hz : Sla z t) (hZ : Z15 z) (g : Nat) (hg : 4 * g + 3 < lsize t.a t.s) : byteAt t (4 * g + 3) < 100 := by
  have hc := cfg_sizes hok.cfg
  by_cases h1 : 4 * g + 3 < 128
  · unfold byteAt rootB
    rw [if_pos h1]
    by_cases h2 : 4 * g + 3 < 8 ∨ 96 ≤ 4 * g + 3
    · rw [if_pos h2]; decide
    · rw [if_neg h2]
      have key : fOf (4 * g + 3) < 21 ∧ ((fOf (4 * g + 3) = 16 → 3 ≤ 4 * g + 3 - fldA (fOf (4 * g + 3))) ∧ (fOf (4 * g + 3) ≠ 16 → 4 * g + 3 - fldA (fOf (4 * g + 3)) = 3)) := by
        have hall : ∀ g, g < 24 → 2 ≤ g → fOf (4 * g + 3) < 21 ∧ ((fOf (4 * g + 3) = 16 → 3 ≤ 4 * g + 3 - fldA (fOf (4 * g + 3))) ∧ (fOf (4 * g + 3) ≠ 16 → 4 * g + 3 - fldA (fOf (4 * g + 3)) = 3)) := by decide
        exact hall g (by omega) (by omega)
      obtain ⟨k1, k2, k3⟩ := key
      by_cases h16 : fOf (4 * g + 3) = 16
      · rcases rt_lt hok hs hz hZ 16 with ⟨_, e⟩ | e
        · cases e
        · have := k2 h16
          rw [h16] at this ⊢
          rw [nbj e this]; decide
      · rw [k3 h16]
        rcases rt_lt hok hs hz hZ (fOf (4 * g + 3)) with ⟨e, _⟩ | e
        · rw [e]; decide
        · rw [nb3 e]; decide
  · by_cases h2 : 4 * g + 3 < lslots t.a
    · unfold byteAt headB
      rw [if_neg h1, if_pos h2]
      have hk : (4 * g + 3 - 128) / 16 < t.a := by omega
      obtain ⟨e1, e2, e3, e4⟩ := heads_lt hok hs hk
      have hm : (4 * g + 3 - 128) % 16 = 3 ∨ (4 * g + 3 - 128) % 16 = 7 ∨ (4 * g + 3 - 128) % 16 = 11 ∨ (4 * g + 3 - 128) % 16 = 15 := by omega
      generalize (4 * g + 3 - 128) / 16 = k at *
      rcases hm with e | e | e | e <;> rw [e]
      · show nb (t.hd k 1) 1 < 100
        unfold nb; omega
      · show nb (t.hd k 2) 3 < 100
        rw [nb3 e2]; decide
      · show nb (t.hd k 3) 3 < 100
        rw [nb3 e3]; decide
      · show nb (t.hd k 4) 3 < 100
        rw [nb3 e4]; decide
    · by_cases h3 : 4 * g + 3 < lbase t.a t.s
      · unfold byteAt
        rw [if_neg h1, if_neg h2]
        split
        · rw [hz.sl, hZ.sl, nb_0]; decide
        · first | (rw [if_pos h3]; decide) | decide
      · obtain ⟨k, hk, k1, k2⟩ := byteAt_slab hok (i := 4 * g + 3) (by omega) hg
        have h := hs.each k hk
        by_cases h0 : S.cls k = 0
        · have := (h.z h0).2.2.2 (4 * g + 3 - sla t k) (by omega)
          rw [show sla t k + (4 * g + 3 - sla t k) = 4 * g + 3 by omega] at this
          rw [this]
          show 0 < 100
          decide
        · obtain ⟨c1, c2, c3, c4, c5, c6, c7⟩ := csz_tab (S.cls k) (by omega) h.c9
          rcases in_slab hok hs hk k1 k2 h0 with ⟨x, hx, x1, x2⟩ | hp
          · rcases hx with hx | hx
            · obtain ⟨n, n1, n2⟩ := lnk_lt hok hs hk hx
              have hx16 := (h.at_ hok hk (.inl hx)).2.2.1
              have := n2 (4 * g + 3 - x) (by omega)
              rw [show x + (4 * g + 3 - x) = 4 * g + 3 by omega] at this
              rw [this]
              unfold lnkB
              split
              · next h4 => rw [show 4 * g + 3 - x - 4 = 3 by omega, nb3 n1]; decide
              · decide
            · rw [hno k hk] at hx; cases hx
          · have := h.pb h0 (4 * g + 3 - (sla t k + csz (S.cls k) * nbk (S.cls k))) (by omega)
            rw [show sla t k + csz (S.cls k) * nbk (S.cls k) + (4 * g + 3 - (sla t k + csz (S.cls k) * nbk (S.cls k))) = 4 * g + 3 by omega] at this
            rw [this]
            show 0 < 100
            decide
theorem has_no {z t : TM} {S : SS} (hok : t.Ok) (hs : SlI t S) (hno : ∀ i, i < t.a → S.lv i = []) (hz : Sla z t) (hZ : Z15 z) : hasB t.bytes txt9 = false := by
  cases hh : hasB t.bytes txt9
  · rfl
  · obtain ⟨i, hi, he⟩ := (hasB_iff _ _).1 hh
    have hl := congrArg List.length he
    rw [List.length_take, List.length_drop] at hl
    have h9 : txt9.length = 9 := rfl
    have hln := t.bytes_len
    have hb : ∀ j, j < 9 → byteAt t (i + j) = txt9[j]?.getD 0 := fun j hj => by
      have := congrArg (fun l => l[j]?.getD 0) he
      simp only [List.getElem?_take, List.getElem?_drop] at this
      rw [if_pos (by omega)] at this
      rw [← this]
      exact (t.bytes_get (i + j) (by omega)).symm
    have hj := hb (3 - i % 4) (by omega)
    have e : i + (3 - i % 4) = 4 * (i / 4) + 3 := by omega
    have h3 := low3 hok hs hno hz hZ (i / 4) (by omega)
    rw [e] at hj
    rw [hj] at h3
    have : ∀ j, j < 4 → 100 ≤ txt9[j]?.getD 0 := by decide
    have := this (3 - i % 4) (by omega)
    omega
theorem has_yes {t : TM} {S : SS} (hok : t.Ok) (hs : SlI t S) {x n : Nat} (hx : Lv t.a S x n) (hb : ByOn t x 31 txtF) : hasB t.bytes txt9 = true := by
  obtain ⟨b1, b2, b3, b4, b5, b6, b7⟩ := lv_at hs hok hx
  refine (hasB_iff _ _).2 ⟨x, by rw [t.bytes_len]; omega, ?_⟩
  apply List.ext_getElem?
  intro j
  rcases Nat.lt_or_ge j 9 with hj | hj
  · rw [List.getElem?_take, if_pos (show j < txt9.length from hj), List.getElem?_drop]
    have e1 := t.bytes_get (x + j) (by omega)
    rw [hb j (by omega)] at e1
    have hl : x + j < t.bytes.length := by rw [t.bytes_len]; omega
    rw [List.getElem?_eq_getElem hl] at e1 ⊢
    have e2 : txt9[j]? = some (txtF j) := by
      have : ∀ j, j < 9 → txt9[j]? = some (txtF j) := by decide
      exact this j hj
    rw [e2]
    simpa using e1
  · rw [List.getElem?_eq_none (by rw [List.length_take]; show min 9 _ ≤ j; omega), List.getElem?_eq_none hj]
end Go.Proofs.YtkapkbiccppldaaGreatDoor

/- Free blocks: how many there are below a place; what lies at one. Plain words. -/
namespace Go.Proofs.YtkapkbiccppldaaGreatDoor
set_option linter.unusedVariables false
set_option linter.unusedSimpArgs false
open Go.RowKit

/-- All free blocks. -/
def frees (a : Nat) (S : SS) : List Nat := (List.range a).flatMap S.fr
theorem mem_frees {a : Nat} {S : SS} {y : Nat} : y ∈ frees a S ↔ ∃ i, i < a ∧ y ∈ S.fr i := by simp [frees, List.mem_flatMap]
theorem frees_nodup {t : TM} {S : SS} (hok : t.Ok) (hs : SlI t S) : ∀ n, n ≤ t.a → (frees n S).Nodup := fun n => by
  induction n with
  | zero => intro _; simp [frees]
  | succ n ih =>
    intro hn
    have e : frees (n + 1) S = frees n S ++ S.fr n := by simp [frees, List.range_succ]
    rw [e]
    refine List.nodup_append.2 ⟨ih (by omega), ?_, fun x hx y hy => ?_⟩
    · by_cases h0 : S.cls n = 0
      · rw [((hs.each n (by omega)).z h0).1]; simp
      · exact (List.nodup_append.1 ((hs.each n (by omega)).nodup h0)).1
    · rintro rfl
      obtain ⟨i, hi, hm⟩ := mem_frees.1 hx
      have := hs.slab_eq hok (i := i) (j := n) (by omega) (by omega) (.inl hm) (.inl hy)
      omega
/-- How many lie below a place. -/
def cF (F : List Nat) (x : Nat) : Nat := ((List.range x).filter fun y => decide (y ∈ F)).length
theorem cF_succ (F : List Nat) (x : Nat) : cF F (x + 1) = cF F x + if x ∈ F then 1 else 0 := by
  unfold cF
  rw [List.range_succ, List.filter_append, List.length_append]
  by_cases h : x ∈ F <;> simp [h]
theorem cF_gap {F : List Nat} {x : Nat} : ∀ {m : Nat}, (∀ y, x ≤ y → y < x + m → y ∉ F) → cF F (x + m) = cF F x
  | 0, _ => rfl
  | m + 1, h => by
    rw [show x + (m + 1) = (x + m) + 1 by omega, cF_succ, cF_gap (fun y h1 h2 => h y h1 (by omega)), if_neg (h (x + m) (by omega) (by omega)), Nat.add_zero]
theorem cF_8 {F : List Nat} (h16 : ∀ y ∈ F, y % 16 = 0) {x : Nat} (h8 : x % 8 = 0) : cF F (x + 8) = cF F x + if x ∈ F then 1 else 0 := by
  have e : cF F (x + 8) = cF F (x + 1) := cF_gap (x := x + 1) (m := 7) (fun y h1 h2 hy => by have := h16 y hy; omega)
  rw [e, cF_succ]
theorem cF_all {F : List Nat} (hn : F.Nodup) {x : Nat} (hx : ∀ y ∈ F, y < x) : cF F x = F.length := by
  unfold cF
  refine (List.Perm.length_eq ?_)
  refine (List.perm_ext_iff_of_nodup (List.Pairwise.filter _ List.nodup_range) hn).2 (fun y => ?_)
  rw [List.mem_filter]
  simp only [List.mem_range, decide_eq_true_eq]
  exact ⟨fun h => h.2, fun h => ⟨hx y h, h⟩⟩
/-- Room of the classes below one, together. -/
def rsum (a : Nat) (S : SS) (k : Nat) : Nat := ((List.range k).map fun c : Nat => roomN a S c).sum
theorem rsum_succ (a : Nat) (S : SS) (k : Nat) : rsum a S (k + 1) = rsum a S k + roomN a S k := by simp [rsum, List.range_succ]
theorem rsum_1 (a : Nat) (S : SS) : rsum a S 1 = 0 := by
  have h : ∀ n, roomN n S ((0 : Nat) : Int) = 0 := fun n => by
    induction n with
    | zero => rfl
    | succ n ih => rw [roomN_succ, ih, if_neg (by omega)]
  simp [rsum]
  exact h a
theorem rsum_10 {a : Nat} {S : SS} (h : ∀ i, i < a → S.cls i ≤ 9 ∧ (S.cls i = 0 → S.fr i = [])) : rsum a S 10 = (frees a S).length := by
  induction a with
  | zero => rfl
  | succ a ih =>
    have e : frees (a + 1) S = frees a S ++ S.fr a := by simp [frees, List.range_succ]
    rw [e, List.length_append, ← ih (fun i hi => h i (by omega))]
    obtain ⟨h9, h0⟩ := h a (by omega)
    have hk : ∀ k, rsum (a + 1) S k = rsum a S k + if S.cls a < k ∧ 0 < S.cls a then (S.fr a).length else 0 := fun k => by
      induction k with
      | zero => simp [rsum]
      | succ k ihk =>
        rw [rsum_succ, ihk, rsum_succ, roomN_succ]
        by_cases e1 : S.cls a = k
        · by_cases e2 : 0 < k
          · rw [if_neg (by omega), if_pos (by omega), if_pos (by omega)]; omega
          · rw [if_neg (by omega), if_neg (by omega), if_neg (by omega)]; omega
        · rw [if_neg (show ¬ ((S.cls a : Int) = (k : Int) ∧ (0 : Int) < (k : Int)) by omega)]
          by_cases e2 : S.cls a < k ∧ 0 < S.cls a
          · rw [if_pos e2, if_pos (by omega)]; omega
          · rw [if_neg e2, if_neg (by omega)]; omega
    rw [hk 10]
    by_cases e1 : 0 < S.cls a
    · rw [if_pos (by omega)]
    · rw [if_neg (by omega), h0 (by omega)]; rfl
/-- A place of the free kind lies in a free block. -/
theorem free_at {t : TM} {S : SS} (hok : t.Ok) (hs : SlI t S) {y : Nat} (hy : y < lsize t.a t.s) (hk : kindAt t (y / 4) = 6) : ∃ i x, i < t.a ∧ x ∈ S.fr i ∧ x ≤ y ∧ y < x + csz (S.cls i) := by
  have hc := cfg_sizes hok.cfg
  have hb : lbase t.a t.s ≤ y := by
    rcases Nat.lt_or_ge y (lbase t.a t.s) with h | h
    · exfalso
      unfold kindAt at hk
      split at hk
      · cases hk
      · split at hk
        · cases hk
        · split at hk
          · cases hk
          · split at hk
            · cases hk
            · rw [if_pos (by omega)] at hk
              cases hk
    · exact h
  obtain ⟨k, hk1, k1, k2⟩ := byteAt_slab hok hb hy
  have h := hs.each k hk1
  obtain ⟨s1, s2, s3, s4, s5⟩ := sla_ok hok k hk1
  by_cases h0 : S.cls k = 0
  · have := (h.z h0).2.2.1 (y / 4) (by omega) (by omega)
    rw [this] at hk; cases hk
  · obtain ⟨c1, c2, c3, c4, c5, c6, c7⟩ := csz_tab (S.cls k) (by omega) h.c9
    rcases in_slab hok hs hk1 k1 k2 h0 with ⟨x, hx, x1, x2⟩ | hp
    · rcases hx with hx | hx
      · exact ⟨k, x, hk1, hx, x1, x2⟩
      · have hx16 := (h.at_ hok hk1 (.inr hx)).2.2.1
        have := h.live x hx (y / 4) (by omega) (by omega)
        rw [this] at hk; cases hk
    · have m4 : (csz (S.cls k) * nbk (S.cls k)) % 4 = 0 := by
        obtain ⟨d, hd⟩ : ∃ d, csz (S.cls k) = 4 * d := ⟨csz (S.cls k) / 4, by omega⟩
        rw [hd, Nat.mul_assoc]; omega
      have := h.pk h0 (y / 4) (by omega) (by omega)
      rw [this] at hk; cases hk
theorem nb_hi (n j : Nat) : nb (n * 4294967296) j = if 4 ≤ j then nb n (j - 4) else 0 := by
  unfold nb
  by_cases h : 4 ≤ j
  · rw [if_pos h]
    obtain ⟨d, rfl⟩ : ∃ d, j = d + 4 := ⟨j - 4, by omega⟩
    rw [Nat.add_sub_cancel, Nat.pow_add, Nat.mul_comm (256 ^ d), show (256 : Nat) ^ 4 = 4294967296 from rfl, ← Nat.div_div_eq_div_mul, Nat.mul_div_cancel _ (by decide)]
  · rw [if_neg h]
    rcases (by omega : j = 0 ∨ j = 1 ∨ j = 2 ∨ j = 3) with rfl | rfl | rfl | rfl <;> omega
/-- What is read there. -/
theorem free_load {t : TM} {S : SS} (hok : t.Ok) (hs : SlI t S) {i x y : Nat} (hi : i < t.a) (hx : x ∈ S.fr i) (h1 : x ≤ y) (h2 : y < x + csz (S.cls i)) (h8 : y % 8 = 0) :
    ∃ n, n < 4294967296 ∧ At t y 8 6 (if y = x then n * 4294967296 else 0) := by
  have h := hs.each i hi
  have h0 := h.none (.inl hx)
  obtain ⟨c1, c2, c3, c4, c5, c6, c7⟩ := csz_tab (S.cls i) (by omega) h.c9
  obtain ⟨a1, a2, a3, a4, a5, a6, a7⟩ := h.at_ hok hi (.inl hx)
  obtain ⟨n, n1, n2⟩ := lnk_lt hok hs hi hx
  have hkd := h.free.kd x hx
  refine ⟨n, by omega, by decide, h8, by decide, by omega, ?_, fun g g1 g2 => hkd g (by omega) (by omega), fun j hj => ?_⟩
  · split
    · show n * 4294967296 < 18446744073709551616; omega
    · decide
  · have e := n2 (y - x + j) (by omega)
    rw [show x + (y - x + j) = y + j by omega] at e
    rw [e]
    unfold lnkB
    by_cases hxy : y = x
    · rw [if_pos hxy, nb_hi]
      rw [show y - x + j = j by omega]
      by_cases h4 : 4 ≤ j
      · rw [if_pos ⟨h4, hj⟩, if_pos h4]
      · rw [if_neg (by omega), if_neg h4]
    · rw [if_neg hxy, if_neg (by omega), nb_0]
theorem free_start {t : TM} {S : SS} (hok : t.Ok) (hs : SlI t S) {i x y : Nat} (hi : i < t.a) (hx : x ∈ S.fr i) (h1 : x ≤ y) (h2 : y < x + csz (S.cls i)) : (y ∈ frees t.a S ↔ y = x) := by
  constructor
  · intro hm
    obtain ⟨j, hj, hy⟩ := mem_frees.1 hm
    have hb1 := (hs.each i hi).at_ hok hi (.inl hx)
    have hb2 := (hs.each j hj).at_ hok hj (.inl hy)
    have hij : i = j := by
      obtain ⟨a1, a2, a3, a4, a5, a6, a7⟩ := hb1
      obtain ⟨b1, b2, b3, b4, b5, b6, b7⟩ := hb2
      have h0 := (hs.each j hj).none (.inl hy)
      obtain ⟨c1, c2, c3, c4, c5, c6, c7⟩ := csz_tab (S.cls j) (by omega) (hs.each j hj).c9
      unfold sla at *
      omega
    subst hij
    rcases Nat.lt_or_ge x y with hl | hl
    · have := (hs.each i hi).apart (.inl hx) (.inl hy) (by omega)
      have h0 := (hs.each i hi).none (.inl hx)
      obtain ⟨c1, c2, c3, c4, c5, c6, c7⟩ := csz_tab (S.cls i) (by omega) (hs.each i hi).c9
      omega
    · omega
  · rintro rfl
    exact mem_frees.2 ⟨i, hi, hx⟩
theorem free_blk {t : TM} {S : SS} (hok : t.Ok) (hs : SlI t S) {i x y : Nat} (hi : i < t.a) (hx : x ∈ S.fr i) (h1 : x ≤ y) (h2 : y < x + csz (S.cls i)) : blkS t.a (lbase t.a t.s) S y = (i, x, true) := by
  have h := hs.each i hi
  have h0 := h.none (.inl hx)
  obtain ⟨c1, c2, c3, c4, c5, c6, c7⟩ := csz_tab (S.cls i) (by omega) h.c9
  obtain ⟨k, hk, rfl⟩ := h.mem h0 (.inl hx)
  obtain ⟨a1, a2, a3⟩ := adr_ok (t := t) hok hi ⟨(by omega : 1 ≤ S.cls i), h.c9⟩ hk
  have hin : sla t i ≤ y ∧ y < sla t i + 1024 ∧ y < sla t i + csz (S.cls i) * nbk (S.cls i) := by omega
  have e1 : (y - lbase t.a t.s) / 1024 = i := by unfold sla at hin; omega
  have e2 : (y - lbase t.a t.s) % 1024 = y - sla t i := by unfold sla at *; omega
  have e3 : (y - sla t i) % csz (S.cls i) = y - adr t i (S.cls i) k := by
    unfold adr at h1 h2 ⊢
    obtain ⟨d, hd⟩ : ∃ d, y - sla t i = csz (S.cls i) * k + d := ⟨y - sla t i - csz (S.cls i) * k, by omega⟩
    rw [hd, Nat.mul_add_mod, Nat.mod_eq_of_lt (by omega)]
    omega
  unfold blkS
  rw [if_pos (by unfold sla at hin; omega), Int.toNat_natCast, e1, e2, if_neg (by omega), e3]
  congr 2
  omega
end Go.Proofs.YtkapkbiccppldaaGreatDoor

/- Contracts for SlabClean: Begin, Has, live, what lies at a free place. -/
namespace Go.Proofs.YtkapkbiccppldaaGreatDoor
set_option linter.unusedVariables false
set_option linter.unusedSimpArgs false
open Go.RowKit

section
variable {w W : World} {q : MH} {t : TM} {S : SS} {a s : Nat}
theorem z_begin (h : IsH W q (newT a s)) (hc : Cfg a s) : Calls Tryz.prog 17 #[.pointer (some ⟨q.m, 0, none⟩)] W fun e w' => e = .returned (.int .i64 0) ∧ ∃ u, IsH w' q u ∧ SlI u SS.zero ∧ Lis (newT a s).zHd u ∧ Fr q.blocks W w' := by
  have hb := libegin h.m
  have HM := Lib.hid (fun w' (hm : IsT w' q ((newT a s).beg (newT a s).a)) (hf' : Fr q.blocks W w') => (show ∃ u, IsH w' q u ∧ SlI u SS.zero ∧ Lis (newT a s).zHd u ∧ Fr q.blocks W w' from by
    obtain ⟨h1, h2⟩ := begun a s hc _ hm.ok rfl
    exact ⟨_, h.step hm hf', h1, h2, hf'⟩))
  clear h
  go_enter Tryz.func17, Tryz.ntmps17
  go_wp2_with fail
  with_reducible refine hb.mono ?_
  rintro e w1 ⟨rfl, h1, f1⟩
  have H1 := Lib.hid (HM.out _ h1 f1)
  clear h1 f1 HM
  go_wp2_with fail
  go_ret
  exact ⟨rfl, H1.out⟩
theorem z15_new {u : TM} (h : Lis (newT 7 224).zHd u) : Z15 u := by
  refine ⟨?_, fun f hf => ?_, fun i => ?_⟩
  · rw [h.rt 0 (by omega)]; rfl
  · rw [h.rt f (by omega)]
    show (newT 7 224).rt f < _
    rcases hf with hf | hf
    · rcases (by omega : f = 1 ∨ f = 2) with rfl | rfl <;> decide
    · rw [newT_rt 7 224 f (by omega)]; decide
  · rw [h.sl]; rfl
theorem mhas (h : IsT w q t) (ad : Option Addr) (c : Nat) (m : List Nat) (hm : Byt w ad m) (ml : Int) (hml : w.cell? ⟨5, 0, none⟩ = some (.int .i64 ml)) :
    Calls Tryz.prog 69 #[.pointer (some ⟨q.m, 0, none⟩), .slice ad m.length c] w fun e w' => e = .returned (.bool (hasB t.bytes m)) ∧ Fr [] w w' := by
  have hn := h.m.none
  have c1 := h.m.st.cell 1
  simp at c1
  have ha := ahas_any w q.pa q.ga q.cap t.ms.l h.m.ar ad c m hm ml hml
  have e : t.ms.l = t.bytes := rfl
  rw [e] at ha
  generalize hasB t.bytes m = r at *
  generalize m.length = k at *
  clear h hm e
  go_enter Tryz.func69, Tryz.ntmps69
  go_wp2_with fail
  with_reducible refine hn.mono ?_
  rintro e w' ⟨rfl, rfl⟩
  go_wp2_with fail
  with_reducible refine ha.mono ?_
  rintro e w1 ⟨rfl, f1⟩
  go_wp2_with fail
  go_ret
  exact ⟨rfl, f1⟩
/-- How many are live. -/
def lvN (S : SS) (k : Nat) : Nat := ((List.range k).map fun i => (S.lv i).length).sum
theorem lvN_succ (S : SS) (k : Nat) : lvN S (k + 1) = lvN S k + (S.lv k).length := by simp [lvN, List.range_succ]
theorem lvN_zero {S : SS} : ∀ {k : Nat}, lvN S k = 0 → ∀ i, i < k → S.lv i = []
  | 0, _, i, hi => by omega
  | k + 1, h, i, hi => by
    rw [lvN_succ] at h
    rcases (by omega : i < k ∨ i = k) with h1 | rfl
    · exact lvN_zero (by omega) i h1
    · exact List.eq_nil_of_length_eq_zero (by omega)
theorem lvN_pos {S : SS} : ∀ {k : Nat}, 0 < lvN S k → ∃ i x, i < k ∧ x ∈ S.lv i
  | 0, h => by simp [lvN] at h
  | k + 1, h => by
    rw [lvN_succ] at h
    by_cases h0 : S.lv k = []
    · rw [h0] at h
      obtain ⟨i, x, h1, h2⟩ := lvN_pos (k := k) (by simpa using h)
      exact ⟨i, x, by omega, h2⟩
    · obtain ⟨x, hx⟩ := List.exists_mem_of_ne_nil _ h0
      exact ⟨k, x, by omega, hx⟩
theorem xlive (h : IsH w q t) (hs : SlI t S) (ha : t.a = 7) : Calls Tryz.prog 70 #[.pointer (some ⟨q.m, 0, none⟩)] w fun e w' => e = .returned (.int .i64 (lvN S 7)) ∧ IsH w' q t ∧ Fr q.blocks w w' := by
  have HLV := Lib.hid (fun W (hW : IsH W q t) i (hi : i < 7) => slive hW hs i (by rw [ha]; exact hi))
  have HLE := Lib.hid (fun i (hi : i < 7) => (show (S.lv i).length ≤ 32 from by
    have h1 := hs.each i (by rw [ha]; exact hi)
    by_cases h0 : S.cls i = 0
    · rw [(h1.z h0).2.1]; simp
    · have := h1.len h0
      have := (csz_mul (S.cls i) h1.c9).2.2
      omega))
  have hsum : ∀ k, k ≤ 7 → lvN S k ≤ 32 * k := fun k => by
    induction k with
    | zero => intro _; simp [lvN]
    | succ k ih => intro hk; rw [lvN_succ]; have := ih (by omega); have := HLE.out k (by omega); omega
  have HS := Lib.hid hsum
  have H0 := Lib.hid h
  clear h hs hsum
  go_enter Tryz.func70, Tryz.ntmps70
  go_wp2_with fail
  go_loopw [3, 4] (fun n i W => ∃ j : Nat, j ≤ 7 ∧ i = .int .i64 j ∧ n = .int .i64 (lvN S j) ∧ IsH W q t ∧ Fr q.blocks w W) (fun _ i _ => 7 - (intOf i).toNat)
  case atStart => exact ⟨0, by omega, rfl, rfl, H0.out, Fr.refl _ _⟩
  case round =>
    obtain ⟨j, hj, rfl, rfl, hI, hF⟩ := hrel
    have HI := Lib.hid hI
    have HF := Lib.hid hF
    clear hI hF
    by_cases hj7 : j < 7
    · have b1 : decide ((j : Int) < 7) = true := by simp; omega
      have b1' : decide (j < 7) = true := by simp; omega
      have wj : IntKind.i64.wrap ((j : Int) + 1) = (j : Int) + 1 := IntWalk.i64_in _ (by omega)
      have hl := HLV.out _ HI.out j hj7
      have h1 := HS.out j (by omega)
      have h2 := HLE.out j hj7
      have wa : IntKind.i64.wrap ((lvN S j : Int) + ((S.lv j).length : Int)) = ((lvN S (j + 1) : Nat) : Int) := by rw [lvN_succ, IntWalk.i64_in _ (by omega)]; omega
      clear h1 h2
      generalize S.lv j = l at *
      generalize lvN S j = n1 at *
      generalize hn2 : lvN S (j + 1) = n2 at *
      go_wp2_with fail
      with_reducible refine hl.mono ?_
      rintro e w1 ⟨v, rfl, ho, k1, f1⟩
      obtain ⟨ad, cap, rfl, _⟩ := own_row ho
      have H1 := Lib.hid k1
      have F1 := Lib.hid (HF.out.trans f1)
      clear ho k1 f1 hl
      go_wp2_with fail
      go_roundw
      case rel => exact ⟨j + 1, by omega, by go_num, by rw [hn2], H1.out, F1.out⟩
      case measure => simp [intOf]; omega
    · obtain rfl : j = 7 := by omega
      have b1 : decide (((7 : Nat) : Int) < 7) = false := by simp
      go_wp2_with fail
      go_ret
      exact ⟨rfl, HI.out, HF.out⟩
/-- The head of a free block. -/
theorem free_get (h : IsH w q t) (hs : SlI t S) {i x : Nat} (hi : i < t.a) (hx : x ∈ S.fr i) : ∃ n, n < 4294967296 ∧ Calls Tryz.prog 72 #[.pointer (some ⟨q.m, 0, none⟩), .int .i64 x] w (GetP w q t (HB.lnk n)) := by
  have hok := h.ok
  have h1 := hs.each i hi
  have h0 := h1.none (.inl hx)
  obtain ⟨c1, c2, c3, c4, c5, c6, c7⟩ := csz_tab (S.cls i) (by omega) h1.c9
  obtain ⟨a1, a2, a3, a4, a5, a6, a7⟩ := h1.at_ hok hi (.inl hx)
  obtain ⟨n, n1, n2⟩ := lnk_lt hok hs hi hx
  have hh := free_head (h1.free.kd x hx) n2 (by omega) (by omega) a4 a6 (by omega : n < 4294967296)
  refine ⟨n, by omega, hget w q t h x 0 6 (HB.lnk n) ⟨hh.tg, hh.base, hh.al, hh.fit, hh.k0, hh.kinds, fun f hf h2 j hj => by rw [lnk_num n f hf]; exact hh.byte f hf h2 j hj, fun f hf h2 => by rw [lnk_num n f hf]; exact hh.lt f hf h2⟩ (lnk_ok n (by omega)) (lnk_right n) rfl (.inr ⟨by decide, rfl⟩) (.inr rfl)⟩
end
end Go.Proofs.YtkapkbiccppldaaGreatDoor
