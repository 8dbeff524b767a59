/- Lists of slabs in a memory: removing; the state of all lists. Plain words. -/
import Derived.Test.YtcagljjbiodcoaaDoorLiQ
namespace Go.Proofs.YtcagljjbiodcoaaDoor
set_option linter.unusedVariables false
open Go.RowKit

theorem nodup_mid {l1 l2 : List Nat} {x : Nat} (h : (l1 ++ x :: l2).Nodup) : x ∉ l1 ∧ x ∉ l2 ∧ (∀ y ∈ l1, y ∉ l2) ∧ l1.Nodup ∧ l2.Nodup := by
  obtain ⟨a, b, c⟩ := List.nodup_append.1 h
  obtain ⟨d, e⟩ := List.nodup_cons.1 b
  exact ⟨fun hm => c x hm x (by simp) rfl, d, fun y hy hm => c y hy y (by simp [hm]) rfl, a, e⟩
theorem pv_mem {l : List Nat} {y : Nat} (h : 0 < pv l) (e : y = pv l - 1) : y ∈ l := by
  obtain ⟨l', z, e1, e2⟩ := pv_pos h
  rw [e, e2, e1]; simp
theorem hd1_mem {l : List Nat} {y : Nat} (h : 0 < hd1 l) (e : y = hd1 l - 1) : y ∈ l := by
  obtain ⟨z, l', e1, e2⟩ := hd1_pos h
  rw [e, e2, e1]; simp
theorem pv_ne {l : List Nat} (h : l ≠ []) : 0 < pv l := by
  obtain ⟨z, l', e2⟩ : ∃ z l', l = l' ++ [z] := ⟨l.getLast h, l.dropLast, (List.dropLast_concat_getLast h).symm⟩
  rw [e2, pv_snoc]; omega
/-- A slab is taken out of a list. -/
theorem Lk_del {t : TM} {c x : Nat} {l1 l2 : List Nat} (h : Lk t 0 (t.rt (3 + c)) (l1 ++ x :: l2)) (hnd : (l1 ++ x :: l2).Nodup) :
    Lk (t.unl c x (pv l1) (hd1 l2)) 0 ((t.unl c x (pv l1) (hd1 l2)).rt (3 + c)) (l1 ++ l2) := by
  obtain ⟨e0, e⟩ := Lk_iff.1 h
  obtain ⟨h1, h2, hd, hn1, hn2⟩ := nodup_mid hnd
  rw [Lk_iff]
  constructor
  · rw [unl_rt]
    rcases l1 with _ | ⟨z, l1⟩
    · rw [if_pos ⟨rfl, rfl⟩]; rfl
    · rw [if_neg (fun h => by have := pv_ne (l := z :: l1) (by simp); omega), e0]
      rfl
  · intro m1 y m2 em
    rw [unl_a, pvF0, unl_hd, unl_hd]
    rcases split2 em with ⟨r, rfl, rfl⟩ | ⟨r, rfl, rfl⟩
    · obtain ⟨a1, a2, a3⟩ := e m1 y (r ++ x :: l2) (by simp)
      have hyx : y ≠ x := fun e => h1 (by rw [← e]; simp)
      have hy2 : y ∉ l2 := hd y (by simp)
      refine ⟨a1, ?_, ?_⟩
      · rw [if_neg (fun h => hyx h.1), if_neg (fun h => hy2 (hd1_mem h.1 h.2.1)), if_neg (by omega), a2, pvF0]
      · rw [if_neg (fun h => hyx h.1), if_neg (by omega)]
        rcases r with _ | ⟨z, r⟩
        · rw [if_pos ⟨by rw [pv_snoc]; omega, by rw [pv_snoc]; omega, rfl⟩]
          rfl
        · rw [if_neg (fun h => ?_), a3]
          · rfl
          · have hl : pv (m1 ++ y :: z :: r) = pv (z :: r) := by
              rw [show m1 ++ y :: z :: r = (m1 ++ [y]) ++ (z :: r) by simp]
              exact pv_app _ _ (by simp)
            have hy : y ∈ z :: r := pv_mem (by rw [← hl]; exact h.1) (by rw [← hl]; exact h.2.1)
            have hnd := (List.nodup_append.1 hn1).2.1
            exact (List.nodup_cons.1 hnd).1 hy
    · obtain ⟨a1, a2, a3⟩ := e (l1 ++ x :: r) y m2 (by simp)
      have hyx : y ≠ x := fun e => h2 (by rw [← e]; simp)
      have hy1 : y ∉ l1 := fun hm => hd y hm (by simp)
      refine ⟨a1, ?_, ?_⟩
      · rw [if_neg (fun h => hyx h.1)]
        rcases r with _ | ⟨z, r⟩
        · rw [if_pos ⟨by simp [hd1], by simp [hd1], rfl⟩, List.append_nil]
        · rw [if_neg (fun hh => ?_), if_neg (by omega), a2, pvF0, show l1 ++ x :: z :: r = (l1 ++ [x]) ++ (z :: r) by simp, pv_app (l1 ++ [x]) (z :: r) (by simp), pv_app l1 (z :: r) (by simp)]
          have hyz : y = z := by have := hh.2.1; simp [hd1] at this; omega
          subst hyz
          rw [List.cons_append] at hn2
          exact (List.nodup_cons.1 hn2).1 (by simp)
      · rw [if_neg (fun h => hyx h.1), if_neg (by omega), if_neg (fun h => hy1 (pv_mem h.1 h.2.1)), a3]

/-- The list of a class, by which slab is in which. -/
def lst (a : Nat) (inn : Nat → Int) (c : Nat) : List Nat := (List.range a).filter fun x => decide (inn x = (c : Int))
def loL (inn : Nat → Int) (x c : Nat) : List Nat := (List.range x).filter fun y => decide (inn y = (c : Int))
def hiL (a : Nat) (inn : Nat → Int) (x c : Nat) : List Nat := (List.range' (x + 1) (a - (x + 1))).filter fun y => decide (inn y = (c : Int))
theorem range_cut (a x : Nat) (h : x < a) : List.range a = List.range x ++ x :: List.range' (x + 1) (a - (x + 1)) := by
  rw [List.range_eq_range', List.range_eq_range', ← List.range'_succ]
  have := List.range'_append_1 (s := 0) (m := x) (n := a - x)
  rw [Nat.zero_add] at this
  rw [show a - (x + 1) + 1 = a - x by omega, this]
  congr 1
  omega
theorem lst_cut (a : Nat) (inn : Nat → Int) (x c : Nat) (h : x < a) : lst a inn c = if inn x = (c : Int) then loL inn x c ++ x :: hiL a inn x c else loL inn x c ++ hiL a inn x c := by
  unfold lst loL hiL
  rw [range_cut a x h, List.filter_append, List.filter_cons]
  by_cases e : inn x = (c : Int)
  · rw [if_pos (by simpa using e), if_pos e]
  · rw [if_neg (by simpa using e), if_neg e]
theorem lst_lt {a : Nat} {inn : Nat → Int} {c y : Nat} (h : y ∈ lst a inn c) : y < a ∧ inn y = (c : Int) := by
  unfold lst at h
  rw [List.mem_filter] at h
  exact ⟨List.mem_range.1 h.1, by simpa using h.2⟩
theorem lst_mem {a : Nat} {inn : Nat → Int} {c y : Nat} (h : y < a) (e : inn y = (c : Int)) : y ∈ lst a inn c := by
  unfold lst
  rw [List.mem_filter]
  exact ⟨List.mem_range.2 h, by simpa using e⟩
theorem lst_sorted (a : Nat) (inn : Nat → Int) (c : Nat) : (lst a inn c).Pairwise (· < ·) := List.Pairwise.filter _ List.pairwise_lt_range
theorem nodup_of_lt {l : List Nat} (h : l.Pairwise (· < ·)) : l.Nodup := h.imp (fun h => Nat.ne_of_lt h)
theorem lst_len (a : Nat) (inn : Nat → Int) (c : Nat) : (lst a inn c).length ≤ a := by
  have := List.length_filter_le (fun x => decide (inn x = (c : Int))) (List.range a)
  rw [List.length_range] at this
  exact this
theorem loL_lt {inn : Nat → Int} {x c y : Nat} (h : y ∈ loL inn x c) : y < x ∧ inn y = (c : Int) := lst_lt (a := x) h
theorem hiL_lt {a : Nat} {inn : Nat → Int} {x c y : Nat} (h : y ∈ hiL a inn x c) : x < y ∧ y < a ∧ inn y = (c : Int) := by
  unfold hiL at h
  rw [List.mem_filter, List.mem_range'_1] at h
  exact ⟨by omega, by omega, by simpa using h.2⟩
theorem loL_up (inn : Nat → Int) (x c : Nat) (v : Int) : loL (up inn x v) x c = loL inn x c := by
  unfold loL
  refine List.filter_congr fun y hy => ?_
  rw [up_ne _ _ (by have := List.mem_range.1 hy; omega)]
theorem hiL_up (a : Nat) (inn : Nat → Int) (x c : Nat) (v : Int) : hiL a (up inn x v) x c = hiL a inn x c := by
  unfold hiL
  refine List.filter_congr fun y hy => ?_
  rw [up_ne _ _ (by have := (List.mem_range'_1.1 hy).1; omega)]
theorem wth_split (x : Nat) : ∀ (l1 l2 : List Nat) (p : Nat), (∀ y ∈ l1, y < x) → (∀ y ∈ l2, x < y) → wth x p (l1 ++ l2) = (false, pvF p l1)
  | [], [], p, _, _ => rfl
  | [], y :: l, p, _, h => by
    have := h y (by simp)
    show wth x p (y :: l) = _
    rw [wth, if_pos this]; rfl
  | y :: l, l2, p, h1, h2 => by
    have := h1 y (by simp)
    rw [List.cons_append, wth, if_neg (by omega), if_neg (by omega), wth_split x l l2 (y + 1) (fun z hz => h1 z (by simp [hz])) h2, pvF_cons]
theorem wth_hit (x : Nat) : ∀ (l1 l2 : List Nat) (p : Nat), (∀ y ∈ l1, y < x) → wth x p (l1 ++ x :: l2) = (true, pvF p l1)
  | [], l, p, _ => by
    show wth x p (x :: l) = _
    rw [wth, if_neg (by omega), if_pos rfl]; rfl
  | y :: l, l2, p, h1 => by
    have := h1 y (by simp)
    rw [List.cons_append, wth, if_neg (by omega), if_neg (by omega), wth_hit x l l2 (y + 1) (fun z hz => h1 z (by simp [hz])), pvF_cons]
theorem wth_lst (a : Nat) (inn : Nat → Int) (x c : Nat) (h : x < a) : wth x 0 (lst a inn c) = (decide (inn x = (c : Int)), pv (loL inn x c)) := by
  rw [lst_cut a inn x c h]
  by_cases e : inn x = (c : Int)
  · rw [if_pos e, wth_hit x _ _ 0 (fun y hy => (loL_lt hy).1), decide_eq_true e, pvF0]
  · rw [if_neg e, wth_split x _ _ 0 (fun y hy => (loL_lt hy).1) (fun y hy => (hiL_lt hy).1), decide_eq_false e, pvF0]

/-- All lists of a memory. -/
structure LS (t : TM) (inn : Nat → Int) : Prop where
  ln : ∀ c, c ≤ 9 → Lk t 0 (t.rt (3 + c)) (lst t.a inn c)
  out : ∀ x, x < t.a → inn x < 0 → t.hd x 3 = 0 ∧ t.hd x 4 = 0
  le : ∀ x, x < t.a → -1 ≤ inn x ∧ inn x ≤ 9
theorem LS.ins {t : TM} {inn : Nat → Int} (h : LS t inn) {c x : Nat} (hc : c ≤ 9) (hx : x < t.a) (hn : inn x < 0) :
    LS (t.lnk c x (pv (loL inn x c)) (hd1 (hiL t.a inn x c))) (up inn x c) := by
  have hcut := lst_cut t.a inn x c hx
  rw [if_neg (by omega)] at hcut
  have hl := h.ln c hc
  have hso := lst_sorted t.a inn c
  rw [hcut] at hl hso
  have hnd := nodup_of_lt hso
  obtain ⟨n1, n2, n3⟩ := List.nodup_append.1 hnd
  refine ⟨fun d hd => ?_, fun y hy hyn => ?_, fun y hy => ?_⟩
  · rw [lnk_a]
    by_cases e : d = c
    · subst e
      rw [lst_cut t.a _ x d hx, if_pos (up_same _ _ _), loL_up, hiL_up]
      exact Lk_ins hl hx (fun hm => by have := (loL_lt hm).1; omega) (fun hm => by have := (hiL_lt hm).1; omega) (fun y h1 h2 => by have := (loL_lt h1).1; have := (hiL_lt h2).1; omega) n1 n2
    · have e1 : lst t.a (up inn x c) d = lst t.a inn d := by
        rw [lst_cut t.a _ x d hx, lst_cut t.a inn x d hx, up_same, if_neg (by omega), if_neg (by omega), loL_up, hiL_up]
      rw [e1, lnk_rt, if_neg (by omega)]
      refine (h.ln d hd).same (lnk_a _ _ _ _ _) (fun y hy => ?_)
      have hyd := (lst_lt hy).2
      rw [lnk_hd, lnk_hd]
      have hyx : y ≠ x := fun e => by subst e; omega
      have k1 : ∀ (h0 : 0 < pv (loL inn x c)), y ≠ pv (loL inn x c) - 1 := fun h0 e2 => by have := (loL_lt (pv_mem h0 e2)).2; omega
      have k2 : ∀ (h0 : 0 < hd1 (hiL t.a inn x c)), y ≠ hd1 (hiL t.a inn x c) - 1 := fun h0 e2 => by have := (hiL_lt (hd1_mem h0 e2)).2.2; omega
      exact ⟨by rw [if_neg (fun h => k1 h.1 h.2.1), if_neg (by omega), if_neg (fun h => hyx h.1), if_neg (fun h => hyx h.1)], by rw [if_neg (by omega), if_neg (fun h => k2 h.1 h.2.1), if_neg (fun h => hyx h.1), if_neg (fun h => hyx h.1)]⟩
  · rw [lnk_a] at hy
    have hyx : y ≠ x := fun e => by subst e; rw [up_same] at hyn; omega
    rw [up_ne _ _ hyx] at hyn
    have k1 : ∀ (h0 : 0 < pv (loL inn x c)), y ≠ pv (loL inn x c) - 1 := fun h0 e2 => by have := (loL_lt (pv_mem h0 e2)).2; omega
    have k2 : ∀ (h0 : 0 < hd1 (hiL t.a inn x c)), y ≠ hd1 (hiL t.a inn x c) - 1 := fun h0 e2 => by have := (hiL_lt (hd1_mem h0 e2)).2.2; omega
    rw [lnk_hd, lnk_hd]
    rw [if_neg (fun h => k1 h.1 h.2.1), if_neg (by omega), if_neg (fun h => hyx h.1), if_neg (fun h => hyx h.1), if_neg (by omega), if_neg (fun h => k2 h.1 h.2.1), if_neg (fun h => hyx h.1), if_neg (fun h => hyx h.1)]
    exact h.out y hy hyn
  · rw [lnk_a] at hy
    by_cases e : y = x
    · rw [e, up_same]; omega
    · rw [up_ne _ _ e]; exact h.le y hy
theorem LS.del {t : TM} {inn : Nat → Int} (h : LS t inn) {c x : Nat} (hc : c ≤ 9) (hx : x < t.a) (hn : inn x = (c : Int)) :
    LS (t.unl c x (pv (loL inn x c)) (hd1 (hiL t.a inn x c))) (up inn x (-1)) := by
  have hcut := lst_cut t.a inn x c hx
  rw [if_pos hn] at hcut
  have hl := h.ln c hc
  have hso := lst_sorted t.a inn c
  rw [hcut] at hl hso
  have hnd := nodup_of_lt hso
  refine ⟨fun d hd => ?_, fun y hy hyn => ?_, fun y hy => ?_⟩
  · rw [unl_a]
    by_cases e : d = c
    · subst e
      rw [lst_cut t.a _ x d hx, up_same, if_neg (by omega), loL_up, hiL_up]
      exact Lk_del hl hnd
    · have e1 : lst t.a (up inn x (-1)) d = lst t.a inn d := by
        rw [lst_cut t.a _ x d hx, lst_cut t.a inn x d hx, up_same, if_neg (by omega), if_neg (by omega), loL_up, hiL_up]
      rw [e1, unl_rt, if_neg (by omega)]
      refine (h.ln d hd).same (unl_a _ _ _ _ _) (fun y hy => ?_)
      have hyd := (lst_lt hy).2
      rw [unl_hd, unl_hd]
      have hyx : y ≠ x := fun e => by subst e; omega
      have k1 : ∀ (h0 : 0 < pv (loL inn x c)), y ≠ pv (loL inn x c) - 1 := fun h0 e2 => by have := (loL_lt (pv_mem h0 e2)).2; omega
      have k2 : ∀ (h0 : 0 < hd1 (hiL t.a inn x c)), y ≠ hd1 (hiL t.a inn x c) - 1 := fun h0 e2 => by have := (hiL_lt (hd1_mem h0 e2)).2.2; omega
      exact ⟨by rw [if_neg (fun h => hyx h.1), if_neg (by omega), if_neg (fun h => k1 h.1 h.2.1)], by rw [if_neg (fun h => hyx h.1), if_neg (fun h => k2 h.1 h.2.1), if_neg (by omega)]⟩
  · rw [unl_a] at hy
    rw [unl_hd, unl_hd]
    by_cases hyx : y = x
    · rw [if_pos ⟨hyx, .inl rfl⟩, if_pos ⟨hyx, .inr rfl⟩]; exact ⟨rfl, rfl⟩
    · rw [up_ne _ _ hyx] at hyn
      have k1 : ∀ (h0 : 0 < pv (loL inn x c)), y ≠ pv (loL inn x c) - 1 := fun h0 e2 => by have := (loL_lt (pv_mem h0 e2)).2; omega
      have k2 : ∀ (h0 : 0 < hd1 (hiL t.a inn x c)), y ≠ hd1 (hiL t.a inn x c) - 1 := fun h0 e2 => by have := (hiL_lt (hd1_mem h0 e2)).2.2; omega
      rw [if_neg (fun h => hyx h.1), if_neg (by omega), if_neg (fun h => k1 h.1 h.2.1), if_neg (fun h => hyx h.1), if_neg (fun h => k2 h.1 h.2.1), if_neg (by omega)]
      exact h.out y hy hyn
  · rw [unl_a] at hy
    by_cases e : y = x
    · rw [e, up_same]; omega
    · rw [up_ne _ _ e]; exact h.le y hy
theorem LS.next {t : TM} {inn : Nat → Int} (h : LS t inn) {c : Nat} (hc : c ≤ 9) {l1 l2 : List Nat} {y : Nat} (e : lst t.a inn c = l1 ++ y :: l2) : t.hd y 3 = hd1 l2 ∧ t.hd y 4 = pv l1 := by
  obtain ⟨_, h2⟩ := Lk_iff.1 (h.ln c hc)
  obtain ⟨_, b, d⟩ := h2 l1 y l2 e
  exact ⟨d, by rw [b, pvF0]⟩
theorem LS.root {t : TM} {inn : Nat → Int} (h : LS t inn) {c : Nat} (hc : c ≤ 9) : t.rt (3 + c) = hd1 (lst t.a inn c) := (Lk_iff.1 (h.ln c hc)).1
/-- What comes behind the last one ahead. -/
theorem LS.behind {t : TM} {inn : Nat → Int} (h : LS t inn) {c x : Nat} (hc : c ≤ 9) (hx : x < t.a) (hn : inn x ≠ (c : Int)) :
    (if 0 < pv (loL inn x c) then t.hd (pv (loL inn x c) - 1) 3 else t.rt (3 + c)) = hd1 (hiL t.a inn x c) := by
  have hcut := lst_cut t.a inn x c hx
  rw [if_neg hn] at hcut
  by_cases h0 : loL inn x c = []
  · rw [if_neg (by rw [h0]; decide), h.root hc, hcut, h0]; rfl
  · rw [if_pos (pv_ne h0)]
    obtain ⟨l', z, e1, e2⟩ := pv_pos (pv_ne h0)
    rw [e2, Nat.add_sub_cancel]
    exact (h.next hc (l1 := l') (by rw [hcut, e1]; simp)).1
/-- Put in and taken out: as it was. -/
theorem LS.back {t : TM} {inn : Nat → Int} (h : LS t inn) {c x : Nat} (hc : c ≤ 9) (hx : x < t.a) (hn : inn x < 0) :
    (t.lnk c x (pv (loL inn x c)) (hd1 (hiL t.a inn x c))).unl c x (pv (loL inn x c)) (hd1 (hiL t.a inn x c)) = t := by
  have hb := h.behind hc hx (c := c) (by omega)
  obtain ⟨o3, o4⟩ := h.out x hx hn
  have hcut := lst_cut t.a inn x c hx
  rw [if_neg (by omega)] at hcut
  have hp : 0 < hd1 (hiL t.a inn x c) → t.hd (hd1 (hiL t.a inn x c) - 1) 4 = pv (loL inn x c) := fun h0 => by
    obtain ⟨y, l', e1, e2⟩ := hd1_pos h0
    rw [e2, Nat.add_sub_cancel]
    exact (h.next hc (l1 := loL inn x c) (l2 := l') (by rw [hcut, e1])).2
  generalize pv (loL inn x c) = p at *
  generalize hd1 (hiL t.a inn x c) = n at *
  have hrt : ((t.lnk c x p n).unl c x p n).rt = t.rt := funext fun f => by
    rw [unl_rt, lnk_rt]
    by_cases h1 : p = 0 ∧ f = 3 + c
    · rw [if_pos h1, ← hb, if_neg (by omega), h1.2]
    · rw [if_neg h1, if_neg h1]
  have hhd : ((t.lnk c x p n).unl c x p n).hd = t.hd := funext fun y => funext fun r => by
    rw [unl_hd, lnk_hd]
    by_cases h1 : y = x ∧ (r = 3 ∨ r = 4)
    · rw [if_pos h1]
      rcases h1 with ⟨rfl, rfl | rfl⟩
      · exact o3.symm
      · exact o4.symm
    · rw [if_neg h1]
      by_cases h2 : 0 < n ∧ y = n - 1 ∧ r = 4
      · rw [if_pos h2, h2.2.1, h2.2.2, hp h2.1]
      · rw [if_neg h2]
        by_cases h3 : 0 < p ∧ y = p - 1 ∧ r = 3
        · rw [if_pos h3, ← hb, if_pos h3.1, h3.2.1, h3.2.2]
        · rw [if_neg h3, if_neg h3, if_neg h2, if_neg (fun e => h1 ⟨e.1, .inl e.2⟩), if_neg (fun e => h1 ⟨e.1, .inr e.2⟩)]
  have e1 : ∀ u : TM, u.a = t.a → u.s = t.s → u.rt = t.rt → u.hd = t.hd → u.sl = t.sl → u.bt = t.bt → u.kd = t.kd → u.ft = t.ft → u = t := fun u _ _ _ _ _ _ _ _ => by
    cases u; cases t; simp_all
  have k : ∀ (t : TM) (p n : Nat), (t.after c p n).s = t.s ∧ (t.after c p n).sl = t.sl ∧ (t.after c p n).bt = t.bt ∧ (t.after c p n).kd = t.kd ∧ (t.after c p n).ft = t.ft := fun t p n => by
    unfold TM.after; split <;> exact ⟨rfl, rfl, rfl, rfl, rfl⟩
  have k1 : ∀ (t : TM), (t.lnk c x p n).s = t.s ∧ (t.lnk c x p n).sl = t.sl ∧ (t.lnk c x p n).bt = t.bt ∧ (t.lnk c x p n).kd = t.kd ∧ (t.lnk c x p n).ft = t.ft := fun t => by
    unfold TM.lnk
    obtain ⟨a1, a2, a3, a4, a5⟩ := k (if 0 < n then ((t.setHd x 4 p).setHd x 3 n).setHd (n - 1) 4 (x + 1) else (t.setHd x 4 p).setHd x 3 n) p (x + 1)
    refine ⟨a1.trans ?_, a2.trans ?_, a3.trans ?_, a4.trans ?_, a5.trans ?_⟩ <;> (split <;> rfl)
  have k2 : ∀ (t : TM), (t.unl c x p n).s = t.s ∧ (t.unl c x p n).sl = t.sl ∧ (t.unl c x p n).bt = t.bt ∧ (t.unl c x p n).kd = t.kd ∧ (t.unl c x p n).ft = t.ft := fun t => by
    obtain ⟨a1, a2, a3, a4, a5⟩ := k t p n
    unfold TM.unl
    refine ⟨Eq.trans ?_ a1, Eq.trans ?_ a2, Eq.trans ?_ a3, Eq.trans ?_ a4, Eq.trans ?_ a5⟩ <;> (dsimp only; split <;> rfl)
  obtain ⟨b1, b2, b3, b4, b5⟩ := k1 t
  obtain ⟨c1, c2, c3, c4, c5⟩ := k2 (t.lnk c x p n)
  exact e1 _ ((unl_a _ _ _ _ _).trans (lnk_a _ _ _ _ _)) (c1.trans b1) hrt hhd (c2.trans b2) (c3.trans b3) (c4.trans b4) (c5.trans b5)
end Go.Proofs.YtcagljjbiodcoaaDoor
