/- A typed memory: numbers in the bytes of its slabs, kinds of these; contracts of Mark and Kind. -/
import Derived.Test.YtcagljjbiodcoaaDoorTmC
namespace Go.Proofs.YtcagljjbiodcoaaDoor
set_option linter.unusedVariables false
open Go.RowKit

def TM.setB (t : TM) (x k v : Nat) : TM := { t with bt := fun i => if x ≤ lbase t.a t.s + i ∧ lbase t.a t.s + i < x + k then nb v (lbase t.a t.s + i - x) else t.bt i }
def TM.setK (t : TM) (x n k : Nat) : TM := { t with kd := fun g => if x / 4 ≤ lbase t.a t.s / 4 + g ∧ lbase t.a t.s / 4 + g < (x + n) / 4 then k else t.kd g }
theorem nb_lt (v j : Nat) : nb v j < 256 := Nat.mod_lt _ (by decide)
theorem byteAt_low (t u : TM) (ha : u.a = t.a) (hs : u.s = t.s) (hr : u.rt = t.rt) (hh : u.hd = t.hd) (hl : u.sl = t.sl) (i : Nat) (hi : i < lbase t.a t.s) (h : t.Ok) : byteAt u i = byteAt t i := by
  have hz := cfg_sizes h.cfg
  unfold byteAt
  rw [ha, hs, hr, hh, hl]
  by_cases h1 : i < 128
  · rw [if_pos h1, if_pos h1]
  · rw [if_neg h1, if_neg h1]
    by_cases h2 : i < lslots t.a
    · rw [if_pos h2, if_pos h2]
    · rw [if_neg h2, if_neg h2]
      by_cases h3 : i < lslots t.a + 4 * t.s
      · rw [if_pos h3, if_pos h3]
      · rw [if_neg h3, if_neg h3, if_pos hi, if_pos hi]
theorem byteAt_high (t : TM) (i : Nat) (hi : lbase t.a t.s ≤ i) (h : t.Ok) : byteAt t i = t.bt (i - lbase t.a t.s) := by
  have hz := cfg_sizes h.cfg
  unfold byteAt
  rw [if_neg (by omega), if_neg (by omega), if_neg (by omega), if_neg (by omega)]
theorem setB_ok {t : TM} (h : t.Ok) (x k v : Nat) : (t.setB x k v).Ok :=
  ⟨h.cfg, h.rt, h.hd, h.sl, fun i => by
    show (if _ then _ else _) < 256
    split
    · exact nb_lt _ _
    · exact h.bt i, h.kd⟩
theorem setB_byte {t : TM} (h : t.Ok) (x k v : Nat) (hx : lbase t.a t.s ≤ x) (i : Nat) : byteAt (t.setB x k v) i = if x ≤ i ∧ i < x + k then nb v (i - x) else byteAt t i := by
  by_cases hi : lbase t.a t.s ≤ i
  · rw [byteAt_high (t.setB x k v) i hi (setB_ok h x k v), byteAt_high t i hi h]
    show (if x ≤ lbase t.a t.s + (i - lbase t.a t.s) ∧ lbase t.a t.s + (i - lbase t.a t.s) < x + k then nb v (lbase t.a t.s + (i - lbase t.a t.s) - x) else _) = _
    rw [show lbase t.a t.s + (i - lbase t.a t.s) = i by omega]
    rfl
  · rw [byteAt_low t (t.setB x k v) rfl rfl rfl rfl rfl i (by omega) h, if_neg (by omega)]
theorem setB_kind (t : TM) (x k v g : Nat) : kindAt (t.setB x k v) g = kindAt t g := rfl
theorem setB_sto {t : TM} (h : t.Ok) {x k kind v : Nat} (ha : At t x k kind v) (hx : lbase t.a t.s ≤ x) (v' : Nat) (hv : v' < 256 ^ k) : t.ms.sto x k kind v' = (t.setB x k v').ms :=
  ha.sto hv rfl rfl rfl rfl (setB_byte h x k v' hx)
theorem setK_ok {t : TM} (h : t.Ok) (x n k : Nat) (hk : k ≤ 8) : (t.setK x n k).Ok :=
  ⟨h.cfg, h.rt, h.hd, h.sl, h.bt, fun g => by
    show (if _ then _ else _) ≤ 8
    split
    · exact hk
    · exact h.kd g⟩
theorem kindAt_high (t : TM) (g : Nat) (hi : lbase t.a t.s ≤ 4 * g) (h : t.Ok) : kindAt t g = t.kd (g - lbase t.a t.s / 4) := by
  have hz := cfg_sizes h.cfg
  unfold kindAt
  rw [if_neg (by omega), if_neg (by omega), if_neg (by omega), if_neg (by omega), if_neg (by omega)]
theorem kindAt_low (t u : TM) (ha : u.a = t.a) (hs : u.s = t.s) (g : Nat) (hi : 4 * g < lbase t.a t.s) : kindAt u g = kindAt t g := by
  unfold kindAt
  rw [ha, hs]
  by_cases h1 : g < 2
  · rw [if_pos h1, if_pos h1]
  rw [if_neg h1, if_neg h1]
  by_cases h2 : g < 32
  · rw [if_pos h2, if_pos h2]
  rw [if_neg h2, if_neg h2]
  by_cases h3 : 4 * g < lslots t.a
  · rw [if_pos h3, if_pos h3]
  rw [if_neg h3, if_neg h3]
  by_cases h4 : 4 * g < lslots t.a + 4 * t.s
  · rw [if_pos h4, if_pos h4]
  rw [if_neg h4, if_neg h4, if_pos hi, if_pos hi]
theorem setK_kind {t : TM} (h : t.Ok) (x n k : Nat) (hk : k ≤ 8) (hx : lbase t.a t.s ≤ x) (g : Nat) : kindAt (t.setK x n k) g = if x / 4 ≤ g ∧ g < (x + n) / 4 then k else kindAt t g := by
  have hz := cfg_sizes h.cfg
  by_cases hi : lbase t.a t.s ≤ 4 * g
  · rw [kindAt_high (t.setK x n k) g hi (setK_ok h x n k hk), kindAt_high t g hi h]
    show (if x / 4 ≤ lbase t.a t.s / 4 + (g - lbase t.a t.s / 4) ∧ lbase t.a t.s / 4 + (g - lbase t.a t.s / 4) < (x + n) / 4 then k else _) = _
    rw [show lbase t.a t.s / 4 + (g - lbase t.a t.s / 4) = g by omega]
    rfl
  · rw [kindAt_low t (t.setK x n k) rfl rfl g (by omega), if_neg (by omega)]
theorem setK_byte (t : TM) (x n k i : Nat) : byteAt (t.setK x n k) i = byteAt t i := rfl
theorem setK_kinds {t : TM} (h : t.Ok) (x n k : Nat) (hk : k ≤ 8) (hx : lbase t.a t.s ≤ x) : setR t.kinds (x / 4) ((x + n) / 4) k = (t.setK x n k).kinds := by
  apply List.ext_getElem?
  intro g
  rcases Nat.lt_or_ge g (lsize t.a t.s / 4) with hg | hg
  · rw [setR_get _ _ _ _ _ (by rw [TM.kinds_len]; exact hg), TM.kinds_get t g hg]
    have e := TM.kinds_get (t.setK x n k) g hg
    have hl : g < (t.setK x n k).kinds.length := by rw [TM.kinds_len]; exact hg
    rw [List.getElem?_eq_getElem hl] at e ⊢
    rw [setK_kind h x n k hk hx] at e
    simpa using e.symm
  · rw [List.getElem?_eq_none (by rw [setR_length, TM.kinds_len]; exact hg), List.getElem?_eq_none (by rw [TM.kinds_len]; exact hg)]

theorem mmark (w : World) (q : MH) (z : MS) (h : IsM w q z) (x y : Int) (i j k : Nat) (hij : i ≤ j) (hj : j ≤ z.ks.length) (hk : k ≤ 8) (hx : x = 4 * i) (hy : y = 4 * j - 4 * i) :
    Calls Tryd.prog 23 #[.pointer (some ⟨q.m, 0, none⟩), .int .i64 x, .int .i64 y, .int .i64 k] w fun e w' => e = .returned (.int .i64 0) ∧ IsM w' q { z with ks := setR z.ks i j k } ∧ Fr [q.bw] w w' := by
  have hn := h.none
  have c0 := h.st.cell 0
  obtain ⟨lk, hw⟩ := h.wt
  have hm := mark_ok w q.pw q.bw z.ks lk z.ft x y i j k hw hij hj hk hx hy
  have HH := Lib.hid h
  have hP := Lib.hid (show ∀ w', IsW w' q.pw q.bw (setR z.ks i j k) lk z.ft → Fr [q.bw] w w' → IsM w' q { z with ks := setR z.ks i j k } from fun w' hw' hf => by
    obtain ⟨n1, n2, n3, n4, n5, n6, n7, n8, n9, n10⟩ := h.nes
    have e : z.l.length = 4 * (setR z.ks i j k).length := by rw [setR_length]; exact h.grains
    exact ⟨h.st.fr hf (by simpa using n2), ⟨lk, hw'⟩, h.ar.fr hf (by simpa using n8.symm) (by simpa using n9.symm), h.ne, h.cfg, h.size, e⟩)
  simp at c0
  generalize setR z.ks i j k = ks' at *
  clear h hw hx hy
  go_enter Tryd.func23, Tryd.ntmps23
  go_wp2_with fail
  with_reducible refine hn.mono ?_
  rintro e w' ⟨rfl, rfl⟩
  go_wp2_with fail
  with_reducible refine hm.mono ?_
  rintro e w1 ⟨rfl, h1, f1⟩
  go_wp2_with fail
  go_ret
  exact ⟨rfl, hP.out _ h1 f1, f1⟩
theorem Fr.bw {q : MH} {w w' : World} (h : Fr [q.bw] w w') : Fr q.blocks w w' := h.mono (fun _ hm => by simp at hm; simp [MH.blocks, hm])
theorem tmark {w : World} {q : MH} {t : TM} (h : IsT w q t) (x n k : Nat) (hx : lbase t.a t.s ≤ x) (h4 : x % 4 = 0) (hn : n % 4 = 0) (hl : x + n ≤ lsize t.a t.s) (hk : k ≤ 8) (x' n' k' : Int) (ex : x' = x) (en : n' = n) (ek : k' = k) :
    Calls Tryd.prog 23 #[.pointer (some ⟨q.m, 0, none⟩), .int .i64 x', .int .i64 n', .int .i64 k'] w fun e w' => e = .returned (.int .i64 0) ∧ IsT w' q (t.setK x n k) ∧ Fr q.blocks w w' := by
  subst ek
  have h4' := lsize_4 t.a t.s
  refine (mmark w q t.ms h.m x' n' (x / 4) ((x + n) / 4) k (by omega) (by show _ ≤ t.kinds.length; rw [TM.kinds_len]; omega) hk (by omega) (by omega)).mono fun e w' ⟨he, hm, hf⟩ => ?_
  have e2 : ({ t.ms with ks := setR t.ms.ks (x / 4) ((x + n) / 4) k } : MS) = (t.setK x n k).ms := by
    show ({ a := t.a, s := t.s, ks := setR t.kinds (x / 4) ((x + n) / 4) k, l := t.bytes, ft := t.ft } : MS) = _
    rw [setK_kinds h.ok x n k hk hx]
    rfl
  rw [e2] at hm
  exact ⟨he, ⟨setK_ok h.ok x n k hk, hm, h.tab.fr hf.bw h.hi, h.hi⟩, hf.bw⟩
theorem mkind (w : World) (q : MH) (z : MS) (h : IsM w q z) (x y : Int) :
    Calls Tryd.prog 101 #[.pointer (some ⟨q.m, 0, none⟩), .int .i64 x, .int .i64 y] w fun e w' => e = .returned (.int .i64 (kindL z.ks x y)) ∧ w' = w := by
  have hn := h.none
  have c0 := h.st.cell 0
  obtain ⟨lk, hw⟩ := h.wt
  have hm := kind_all w q.pw q.bw z.ks lk z.ft x y hw
  simp at c0
  generalize kindL z.ks x y = k at *
  clear h hw
  go_enter Tryd.func101, Tryd.ntmps101
  go_wp2_with fail
  with_reducible refine hn.mono ?_
  rintro e w' ⟨rfl, rfl⟩
  go_wp2_with fail
  with_reducible refine hm.mono ?_
  rintro e w1 ⟨rfl, rfl⟩
  go_wp2_with fail
  go_ret
  exact ⟨rfl, rfl⟩
/-- The kind of one grain. -/
theorem tkind4 {w : World} {q : MH} {t : TM} (h : IsT w q t) (x : Nat) (h4 : x % 4 = 0) (hl : x + 4 ≤ lsize t.a t.s) :
    Calls Tryd.prog 101 #[.pointer (some ⟨q.m, 0, none⟩), .int .i64 x, .int .i64 4] w fun e w' => e = .returned (.int .i64 (kindAt t (x / 4))) ∧ w' = w := by
  have h4' := lsize_4 t.a t.s
  have hlen : t.ms.ks.length = lsize t.a t.s / 4 := TM.kinds_len t
  have e : kindL t.ms.ks x 4 = kindAt t (x / 4) := by
    unfold kindL
    rw [if_neg (by
      rw [hlen]
      rintro (h | h)
      · omega
      · simp [fitsB] at h; omega)]
    have e1 : ((x : Int) / 4).toNat = x / 4 := by omega
    have e2 : (((x : Int) + 4 + 3) / 4).toNat = x / 4 + 1 := by omega
    rw [e1, e2]
    unfold kindY
    rw [oneK_yes _ _ _ (fun y hy => by have : y = 0 := by omega
                                       rw [this, Nat.add_zero]), if_pos rfl]
    exact TM.kinds_get t _ (by omega)
  have := mkind w q t.ms h.m x 4
  rw [e] at this
  exact this
end Go.Proofs.YtcagljjbiodcoaaDoor
