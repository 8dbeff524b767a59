/- A memory as typed fields: root, heads of slabs, slots, bytes of slabs. Plain words. -/
import Derived.Test.YtcagljjbiodcoaaDoorMemR
namespace Go.Proofs.YtcagljjbiodcoaaDoor
set_option linter.unusedVariables false
open Go.RowKit

/-- A memory, field by field. -/
structure TM where
  a : Nat
  s : Nat
  rt : Nat → Nat
  hd : Nat → Nat → Nat
  sl : Nat → Nat
  bt : Nat → Nat
  kd : Nat → Nat
  ft : Int
def hdA (p : Nat) : Nat := if p = 0 then 0 else if p = 1 then 2 else if p = 2 then 4 else if p = 3 then 8 else 12
def hdW (p : Nat) : Nat := if p < 2 then 2 else 4
def pOf (r : Nat) : Nat := if r < 2 then 0 else if r < 4 then 1 else if r < 8 then 2 else if r < 12 then 3 else 4
def fOf (i : Nat) : Nat := if i < 72 then (i - 8) / 4 else if i < 80 then 16 else 17 + (i - 80) / 4
def nb (v j : Nat) : Nat := v / 256 ^ j % 256
def rootB (rt : Nat → Nat) (i : Nat) : Nat := if i < 8 ∨ 96 ≤ i then 0 else nb (rt (fOf i)) (i - fldA (fOf i))
def headB (hd : Nat → Nat → Nat) (o : Nat) : Nat := nb (hd (o / 16) (pOf (o % 16))) (o % 16 - hdA (pOf (o % 16)))
def byteAt (t : TM) (i : Nat) : Nat :=
  if i < 128 then rootB t.rt i else if i < lslots t.a then headB t.hd (i - 128) else if i < lslots t.a + 4 * t.s then nb (t.sl ((i - lslots t.a) / 4)) ((i - lslots t.a) % 4)
  else if i < lbase t.a t.s then 0 else t.bt (i - lbase t.a t.s)
def kindAt (t : TM) (g : Nat) : Nat :=
  if g < 2 then 1 else if g < 32 then 2 else if 4 * g < lslots t.a then 3 else if 4 * g < lslots t.a + 4 * t.s then 4 else if 4 * g < lbase t.a t.s then 8 else t.kd (g - lbase t.a t.s / 4)
def TM.bytes (t : TM) : List Nat := (List.range (lsize t.a t.s)).map (byteAt t)
def TM.kinds (t : TM) : List Nat := (List.range (lsize t.a t.s / 4)).map (kindAt t)
def TM.ms (t : TM) : MS := { a := t.a, s := t.s, ks := t.kinds, l := t.bytes, ft := t.ft }
structure TM.Ok (t : TM) : Prop where
  cfg : Cfg t.a t.s
  rt : ∀ f, t.rt f < 256 ^ fldW f
  hd : ∀ i p, t.hd i p < 256 ^ hdW p
  sl : ∀ i, t.sl i < 256 ^ 4
  bt : ∀ i, t.bt i < 256
  kd : ∀ g, t.kd g ≤ 8
theorem TM.bytes_len (t : TM) : t.bytes.length = lsize t.a t.s := by simp [TM.bytes]
theorem TM.kinds_len (t : TM) : t.kinds.length = lsize t.a t.s / 4 := by simp [TM.kinds]
theorem TM.bytes_get (t : TM) (i : Nat) (h : i < lsize t.a t.s) : t.bytes[i]?.getD 0 = byteAt t i := by simp [TM.bytes, h]
theorem TM.kinds_get (t : TM) (i : Nat) (h : i < lsize t.a t.s / 4) : t.kinds[i]?.getD 0 = kindAt t i := by simp [TM.kinds, h]

def up {α : Type} (f : Nat → α) (i : Nat) (v : α) : Nat → α := fun j => if j = i then v else f j
theorem up_same {α : Type} (f : Nat → α) (i : Nat) (v : α) : up f i v i = v := if_pos rfl
theorem up_ne {α : Type} (f : Nat → α) {i j : Nat} (v : α) (h : j ≠ i) : up f i v j = f j := if_neg h
def TM.setRt (t : TM) (f v : Nat) : TM := { t with rt := up t.rt f v }
def TM.setHd (t : TM) (i p v : Nat) : TM := { t with hd := up t.hd i (up (t.hd i) p v) }
def TM.setSl (t : TM) (i v : Nat) : TM := { t with sl := up t.sl i v }

theorem TM.setRt_rt (t : TM) (f v g : Nat) : (t.setRt f v).rt g = if g = f then v else t.rt g := rfl
theorem TM.setHd_hd (t : TM) (i p v j r : Nat) : (t.setHd i p v).hd j r = if j = i ∧ r = p then v else t.hd j r := by
  show up t.hd i (up (t.hd i) p v) j r = _
  by_cases h : j = i
  · subst h
    rw [up_same]
    by_cases h2 : r = p
    · rw [h2, up_same, if_pos ⟨rfl, rfl⟩]
    · rw [up_ne _ _ h2, if_neg (fun h => h2 h.2)]
  · rw [up_ne _ _ h, if_neg (fun h' => h h'.1)]

theorem cell_new0 (w : World) (v : Value) (t : TypeId) : (w.alloc (.cells #[v] t)).cell? ⟨w.heap.size, 0, none⟩ = some v := (Blk.new w t #[v]).cell 0
/-- Touches that may be. -/
theorem may_ok (ks : List Nat) (x k kind : Nat) (hk : k = 1 ∨ k = 2 ∨ k = 4 ∨ k = 8) (hx : x % k = 0) (h0 : kind ≠ 0) (hl : x + k ≤ 4 * ks.length)
    (hg : ∀ g, x / 4 ≤ g → g < (x + k + 3) / 4 → ks[g]?.getD 0 = kind) : mayL ks x k kind = true := by
  unfold mayL
  rw [decide_eq_true_eq]
  refine ⟨by omega, by omega, by omega, ?_⟩
  unfold kindL
  rw [if_neg (by
    rintro (h | h)
    · omega
    · simp [fitsB] at h; omega)]
  have e1 : ((x : Int) / 4).toNat = x / 4 := by omega
  have e2 : (((x : Int) + k + 3) / 4).toNat = (x + k + 3) / 4 := by omega
  rw [e1, e2]
  unfold kindY
  rw [oneK_yes _ _ _ (fun y hy => by rw [hg _ (by omega) (by omega), hg _ (by omega) (by omega)]), if_pos rfl, hg _ (by omega) (by omega)]
theorem placeE_ok (n x k : Nat) (hk : k = 1 ∨ k = 2 ∨ k = 4 ∨ k = 8) (hx : x % k = 0) (hl : x + k ≤ n) : placeE n x k = 0 := by
  unfold placeE
  rw [if_neg (by simp [widB]; omega), if_neg (by omega), if_neg (by omega)]
theorem ldV_ok (l : List Nat) (x k v : Nat) (hk : k = 1 ∨ k = 2 ∨ k = 4 ∨ k = 8) (hx : x % k = 0) (hl : x + k ≤ l.length) (hv : v < 256 ^ k) (hb : ∀ j, j < k → l[x + j]?.getD 0 = nb v j) : ldV l x k = v := by
  unfold ldV
  rw [placeE_ok _ _ _ hk hx hl, if_pos rfl, Int.toNat_natCast, Int.toNat_natCast, ldTo_of l x v k hb, Nat.mod_eq_of_lt hv]
theorem putE_ok (l : List Nat) (x k v : Nat) (hk : k = 1 ∨ k = 2 ∨ k = 4 ∨ k = 8) (hx : x % k = 0) (hl : x + k ≤ l.length) (hv : v < 256 ^ k) : putE l x k v = 0 := by
  unfold putE
  have : fitsN v k = true := by
    simp [fitsN, widB]
    exact ⟨by omega, hv⟩
  rw [this, if_neg (by simp), placeE_ok _ _ _ hk hx hl]
theorem putL_ok (l m : List Nat) (x k v : Nat) (hk : k = 1 ∨ k = 2 ∨ k = 4 ∨ k = 8) (hx : x % k = 0) (hl : x + k ≤ l.length) (hv : v < 256 ^ k) (hm : m.length = l.length)
    (hb : ∀ i, i < l.length → m[i]?.getD 0 = if x ≤ i ∧ i < x + k then nb v (i - x) else l[i]?.getD 0) : putL l x k v = m := by
  unfold putL
  rw [putE_ok l x k v hk hx hl hv, if_pos rfl, Int.toNat_natCast, Int.toNat_natCast]
  apply List.ext_getElem?
  intro i
  rcases Nat.lt_or_ge i l.length with h | h
  · have e1 := putTo_get l x v k hl i
    have e2 := hb i h
    have : (putTo l x v k)[i]?.getD 0 = m[i]?.getD 0 := by rw [e1, e2]; rfl
    have h1 : i < (putTo l x v k).length := by rw [putTo_len]; exact h
    have h2 : i < m.length := by rw [hm]; exact h
    rw [List.getElem?_eq_getElem h1, List.getElem?_eq_getElem h2] at this ⊢
    simpa using this
  · rw [List.getElem?_eq_none (by rw [putTo_len]; exact h), List.getElem?_eq_none (by rw [hm]; exact h)]

/-- A typed field of a memory: k bytes at x, of a kind. -/
structure At (t : TM) (x k kind v : Nat) : Prop where
  wid : k = 1 ∨ k = 2 ∨ k = 4 ∨ k = 8
  div : x % k = 0
  k0 : kind ≠ 0
  fit : x + k ≤ lsize t.a t.s
  lt : v < 256 ^ k
  kinds : ∀ g, x / 4 ≤ g → g < (x + k + 3) / 4 → kindAt t g = kind
  bytes : ∀ j, j < k → byteAt t (x + j) = nb v j
theorem lsize_4 (a s : Nat) : lsize a s % 4 = 0 ∧ lsize a s % 16 = 0 := by unfold lsize lbase; omega
theorem At.may {t : TM} {x k kind v : Nat} (h : At t x k kind v) : mayL t.ms.ks x k kind = true := by
  have h4 := lsize_4 t.a t.s
  have hf := h.fit
  refine may_ok _ _ _ _ h.wid h.div h.k0 (by show _ ≤ 4 * t.kinds.length; rw [TM.kinds_len]; omega) (fun g h1 h2 => ?_)
  have : g < lsize t.a t.s / 4 := by rcases h.wid with e | e | e | e <;> omega
  exact (TM.kinds_get t g this).trans (h.kinds g h1 h2)
theorem At.ld {t : TM} {x k kind v : Nat} (h : At t x k kind v) : t.ms.ld x k kind = v := by
  unfold MS.ld
  rw [h.may, if_pos rfl]
  refine ldV_ok _ _ _ _ h.wid h.div (by show _ ≤ t.bytes.length; rw [TM.bytes_len]; exact h.fit) h.lt (fun j hj => ?_)
  exact (TM.bytes_get t _ (by have := h.fit; omega)).trans (h.bytes j hj)
theorem At.look {t : TM} {x k kind v : Nat} (h : At t x k kind v) : t.ms.look x k kind = t.ms := by
  unfold MS.look
  rw [h.may, if_pos rfl]
theorem At.stB {t : TM} {x k kind v : Nat} (h : At t x k kind v) {v' : Nat} (hv : v' < 256 ^ k) : t.ms.stB x k kind v' = true := by
  unfold MS.stB
  rw [h.may, putE_ok _ _ _ _ h.wid h.div (by show _ ≤ t.bytes.length; rw [TM.bytes_len]; exact h.fit) hv]
  rfl
theorem At.sto {t t' : TM} {x k kind v : Nat} (h : At t x k kind v) {v' : Nat} (hv : v' < 256 ^ k) (ea : t'.a = t.a) (es : t'.s = t.s) (ek : t'.kinds = t.kinds) (ef : t'.ft = t.ft)
    (hb : ∀ i, byteAt t' i = if x ≤ i ∧ i < x + k then nb v' (i - x) else byteAt t i) : t.ms.sto x k kind v' = t'.ms := by
  unfold MS.sto
  rw [h.may, if_pos rfl, if_pos rfl]
  have hl : putL t.ms.l x k v' = t'.bytes := by
    refine putL_ok _ _ _ _ _ h.wid h.div (by show _ ≤ t.bytes.length; rw [TM.bytes_len]; exact h.fit) hv (by show t'.bytes.length = t.bytes.length; rw [TM.bytes_len, TM.bytes_len, ea, es]) (fun i hi => ?_)
    have hi' : i < lsize t.a t.s := by rw [← TM.bytes_len]; exact hi
    rw [TM.bytes_get t' i (by rw [ea, es]; exact hi'), hb i]
    have e : t.ms.l[i]?.getD 0 = byteAt t i := TM.bytes_get t i hi'
    rw [e]
  rw [hl]
  unfold TM.ms
  rw [ea, es, ek, ef]

theorem fldA_eq (f : Nat) (h : f < 21) : fldA f = (if f < 16 then 8 + 4 * f else if f = 16 then 72 else 80 + 4 * (f - 17)) := by
  revert f; decide
theorem fldW_pow (f : Nat) : fldW f = 4 ∨ fldW f = 8 := by unfold fldW; split <;> simp
theorem fOf_at (f j : Nat) (h : f < 21) (hj : j < fldW f) : fOf (fldA f + j) = f ∧ 8 ≤ fldA f + j ∧ fldA f + j < 96 := by
  rw [fldA_eq f h]
  unfold fldW at hj
  unfold fOf
  split at hj <;> (repeat' split) <;> omega
theorem fOf_ne (f i : Nat) (h : f < 21) (h1 : 8 ≤ i) (h2 : i < 96) (hn : ¬ (fldA f ≤ i ∧ i < fldA f + fldW f)) : fOf i ≠ f := by
  rw [fldA_eq f h] at hn
  unfold fldW at hn
  unfold fOf
  intro e
  split at e <;> (try split at e) <;> (repeat' split at hn) <;> omega
theorem cfg_sizes {a s : Nat} (h : Cfg a s) : lslots a = 128 + 16 * a ∧ 240 ≤ lslots a ∧ lslots a + 4 * s ≤ lbase a s ∧ lbase a s < lsize a s ∧ lbase a s % 16 = 0 ∧ lsize a s = lbase a s + 1024 * a ∧ lslots a % 16 = 0 := by
  obtain ⟨a1, a2, s1, s2, s3⟩ := h
  unfold lsize lbase lslots
  omega
theorem at_rt {t : TM} (h : t.Ok) (f : Nat) (hf : f < 21) : At t (fldA f) (fldW f) 2 (t.rt f) := by
  have e := fldA_eq f hf
  have hw : fldW f = if f = 16 then 8 else 4 := rfl
  have hz := cfg_sizes h.cfg
  refine ⟨by rcases fldW_pow f with e | e <;> omega, by rw [e, hw]; split <;> (try split) <;> omega, by decide, ?_, h.rt f, fun g h1 h2 => ?_, fun j hj => ?_⟩
  · rw [e, hw]; split <;> (try split) <;> omega
  · have : 2 ≤ g ∧ g < 32 := by rw [e] at h1 h2; rw [hw] at h2; (repeat' split at h2) <;> (repeat' split at h1) <;> omega
    unfold kindAt
    rw [if_neg (by omega), if_pos (by omega)]
  · obtain ⟨h1, h2, h3⟩ := fOf_at f j hf hj
    unfold byteAt rootB
    rw [if_pos (by omega), if_neg (by omega), h1]
    congr 1
    omega
theorem setRt_byte {t : TM} (h : t.Ok) (f v : Nat) (hf : f < 21) (i : Nat) : byteAt (t.setRt f v) i = if fldA f ≤ i ∧ i < fldA f + fldW f then nb v (i - fldA f) else byteAt t i := by
  have hz := cfg_sizes h.cfg
  by_cases hi : fldA f ≤ i ∧ i < fldA f + fldW f
  · obtain ⟨h1, h2, h3⟩ := fOf_at f (i - fldA f) hf (by omega)
    have e : fldA f + (i - fldA f) = i := by omega
    rw [e] at h1 h2 h3
    rw [if_pos hi]
    unfold byteAt rootB
    rw [if_pos (by omega), if_neg (by omega), h1]
    show nb (up t.rt f v f) _ = _
    rw [up_same]
  · rw [if_neg hi]
    unfold byteAt rootB
    by_cases h1 : i < 128
    · rw [if_pos h1, if_pos h1]
      by_cases h2 : i < 8 ∨ 96 ≤ i
      · rw [if_pos h2, if_pos h2]
      · rw [if_neg h2, if_neg h2]
        show nb (up t.rt f v (fOf i)) _ = _
        rw [up_ne _ _ (fOf_ne f i hf (by omega) (by omega) hi)]
    · rw [if_neg h1, if_neg h1]
      rfl
theorem setRt_ok {t : TM} (h : t.Ok) (f v : Nat) (hv : v < 256 ^ fldW f) : (t.setRt f v).Ok :=
  ⟨h.cfg, fun g => by
    show up t.rt f v g < _
    unfold up; split
    · next e => rw [e]; exact hv
    · exact h.rt g, h.hd, h.sl, h.bt, h.kd⟩
theorem setRt_sto {t : TM} (h : t.Ok) (f v : Nat) (hf : f < 21) (hv : v < 256 ^ fldW f) : t.ms.sto (fldA f) (fldW f) 2 v = (t.setRt f v).ms :=
  (at_rt h f hf).sto hv rfl rfl rfl rfl (setRt_byte h f v hf)

theorem hdA_le (p : Nat) (h : p < 5) : hdA p + hdW p ≤ 16 ∧ (hdW p = 2 ∨ hdW p = 4) ∧ hdA p % hdW p = 0 := by
  revert p; decide
set_option maxRecDepth 10000 in
theorem pOf_at (p j : Nat) (h : p < 5) (hj : j < hdW p) : pOf (hdA p + j) = p := by
  have : ∀ p, p < 5 → ∀ j, j < 4 → j < hdW p → pOf (hdA p + j) = p := by decide
  exact this p h j (by have := (hdA_le p h).2.1; omega) hj
theorem pOf_ne (p r : Nat) (h : p < 5) (hr : r < 16) (hn : ¬ (hdA p ≤ r ∧ r < hdA p + hdW p)) : pOf r ≠ p := by
  have : ∀ p, p < 5 → ∀ r, r < 16 → ¬ (hdA p ≤ r ∧ r < hdA p + hdW p) → pOf r ≠ p := by decide
  exact this p h r hr hn
def hdAt (i : Nat) : Nat := 128 + 16 * i
theorem at_hd {t : TM} (h : t.Ok) (i p : Nat) (hi : i < t.a) (hp : p < 5) : At t (hdAt i + hdA p) (hdW p) 3 (t.hd i p) := by
  have hz := cfg_sizes h.cfg
  have hl := hdA_le p hp
  unfold hdAt
  refine ⟨by omega, by rcases hl.2.1 with e | e <;> rw [e] at hl ⊢ <;> omega, by decide, by omega, h.hd i p, fun g h1 h2 => ?_, fun j hj => ?_⟩
  · unfold kindAt
    rw [if_neg (by omega), if_neg (by omega), if_pos (by rcases hl.2.1 with e | e <;> rw [e] at hl h2 <;> omega)]
  · have e := pOf_at p j hp hj
    unfold byteAt headB
    rw [if_neg (by omega), if_pos (by omega)]
    have e1 : (128 + 16 * i + hdA p + j - 128) / 16 = i := by omega
    have e2 : (128 + 16 * i + hdA p + j - 128) % 16 = hdA p + j := by omega
    rw [e1, e2, e, Nat.add_sub_cancel_left]
theorem setHd_byte {t : TM} (h : t.Ok) (i p v : Nat) (hi : i < t.a) (hp : p < 5) (x : Nat) :
    byteAt (t.setHd i p v) x = if hdAt i + hdA p ≤ x ∧ x < hdAt i + hdA p + hdW p then nb v (x - (hdAt i + hdA p)) else byteAt t x := by
  have hz := cfg_sizes h.cfg
  have hl := hdA_le p hp
  by_cases hx : hdAt i + hdA p ≤ x ∧ x < hdAt i + hdA p + hdW p
  · rw [if_pos hx]
    unfold hdAt at *
    have e := pOf_at p (x - (128 + 16 * i + hdA p)) hp (by omega)
    unfold byteAt headB
    rw [if_neg (by omega), if_pos (by show x < lslots t.a; omega)]
    have e1 : (x - 128) / 16 = i := by omega
    have e2 : (x - 128) % 16 = hdA p + (x - (128 + 16 * i + hdA p)) := by omega
    rw [e1, e2, e]
    show nb (up t.hd i (up (t.hd i) p v) i p) _ = _
    rw [up_same, up_same, Nat.add_sub_cancel_left]
  · rw [if_neg hx]
    unfold byteAt
    by_cases h1 : x < 128
    · rw [if_pos h1, if_pos h1]; rfl
    · rw [if_neg h1, if_neg h1]
      by_cases h2 : x < lslots t.a
      · rw [if_pos h2, if_pos (show x < lslots (t.setHd i p v).a from h2)]
        unfold headB
        show nb (up t.hd i (up (t.hd i) p v) ((x - 128) / 16) _) _ = _
        by_cases h3 : (x - 128) / 16 = i
        · rw [h3, up_same]
          unfold hdAt at hx
          rw [up_ne _ _ (pOf_ne p _ hp (by omega) (by omega))]
        · rw [up_ne _ _ h3]
      · rw [if_neg h2, if_neg (show ¬ x < lslots (t.setHd i p v).a from h2)]
        rfl
theorem setHd_ok {t : TM} (h : t.Ok) (i p v : Nat) (hv : v < 256 ^ hdW p) : (t.setHd i p v).Ok :=
  ⟨h.cfg, h.rt, fun j r => by
    show up t.hd i (up (t.hd i) p v) j r < _
    by_cases e : j = i
    · rw [e, up_same]
      by_cases e2 : r = p
      · rw [e2, up_same]; exact hv
      · rw [up_ne _ _ e2]; exact h.hd i r
    · rw [up_ne _ _ e]; exact h.hd j r, h.sl, h.bt, h.kd⟩
theorem setHd_sto {t : TM} (h : t.Ok) (i p v : Nat) (hi : i < t.a) (hp : p < 5) (hv : v < 256 ^ hdW p) : t.ms.sto (hdAt i + hdA p : Nat) (hdW p) 3 v = (t.setHd i p v).ms :=
  (at_hd h i p hi hp).sto hv rfl rfl rfl rfl (setHd_byte h i p v hi hp)

def slAt (t : TM) (i : Nat) : Nat := lslots t.a + 4 * i
theorem at_sl {t : TM} (h : t.Ok) (i : Nat) (hi : i < t.s) : At t (slAt t i) 4 4 (t.sl i) := by
  have hz := cfg_sizes h.cfg
  unfold slAt
  refine ⟨by omega, by omega, by decide, by omega, h.sl i, fun g h1 h2 => ?_, fun j hj => ?_⟩
  · unfold kindAt
    rw [if_neg (by omega), if_neg (by omega), if_neg (by omega), if_pos (by omega)]
  · unfold byteAt
    rw [if_neg (by omega), if_neg (by omega), if_pos (by omega)]
    have e1 : (lslots t.a + 4 * i + j - lslots t.a) / 4 = i := by omega
    have e2 : (lslots t.a + 4 * i + j - lslots t.a) % 4 = j := by omega
    rw [e1, e2]
theorem setSl_byte {t : TM} (h : t.Ok) (i v : Nat) (hi : i < t.s) (x : Nat) : byteAt (t.setSl i v) x = if slAt t i ≤ x ∧ x < slAt t i + 4 then nb v (x - slAt t i) else byteAt t x := by
  have hz := cfg_sizes h.cfg
  by_cases hx : slAt t i ≤ x ∧ x < slAt t i + 4
  · rw [if_pos hx]
    unfold slAt at *
    unfold byteAt
    rw [if_neg (by omega), if_neg (show ¬ x < lslots (t.setSl i v).a by show ¬ x < lslots t.a; omega), if_pos (show x < lslots (t.setSl i v).a + 4 * (t.setSl i v).s by show x < lslots t.a + 4 * t.s; omega)]
    have e1 : (x - lslots t.a) / 4 = i := by omega
    have e2 : (x - lslots t.a) % 4 = x - (lslots t.a + 4 * i) := by omega
    show nb (up t.sl i v ((x - lslots t.a) / 4)) ((x - lslots t.a) % 4) = _
    rw [e1, e2, up_same]
  · rw [if_neg hx]
    unfold byteAt
    by_cases h1 : x < 128
    · rw [if_pos h1, if_pos h1]; rfl
    · rw [if_neg h1, if_neg h1]
      by_cases h2 : x < lslots t.a
      · rw [if_pos h2, if_pos (show x < lslots (t.setSl i v).a from h2)]; rfl
      · rw [if_neg h2, if_neg (show ¬ x < lslots (t.setSl i v).a from h2)]
        by_cases h3 : x < lslots t.a + 4 * t.s
        · rw [if_pos h3, if_pos (show x < lslots (t.setSl i v).a + 4 * (t.setSl i v).s from h3)]
          unfold slAt at hx
          show nb (up t.sl i v ((x - lslots t.a) / 4)) ((x - lslots t.a) % 4) = _
          rw [up_ne _ _ (by omega)]
        · rw [if_neg h3, if_neg (show ¬ x < lslots (t.setSl i v).a + 4 * (t.setSl i v).s from h3)]
          rfl
theorem setSl_ok {t : TM} (h : t.Ok) (i v : Nat) (hv : v < 256 ^ 4) : (t.setSl i v).Ok :=
  ⟨h.cfg, h.rt, h.hd, fun j => by
    show up t.sl i v j < _
    unfold up; split
    · exact hv
    · exact h.sl j, h.bt, h.kd⟩
theorem setSl_sto {t : TM} (h : t.Ok) (i v : Nat) (hi : i < t.s) (hv : v < 256 ^ 4) : t.ms.sto (slAt t i) 4 4 v = (t.setSl i v).ms :=
  (at_sl h i hi).sto hv rfl rfl rfl rfl (setSl_byte h i v hi)
end Go.Proofs.YtcagljjbiodcoaaDoor
