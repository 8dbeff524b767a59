/- A new memory, field by field. -/
import Derived.Test.YtcagljjbiodcoaaDoorTmC
import Derived.Test.YtcagljjbiodcoaaDoorMemN
namespace Go.Proofs.YtcagljjbiodcoaaDoor
set_option linter.unusedVariables false
open Go.RowKit

def zT (a s : Nat) : TM := { a := a, s := s, rt := fun _ => 0, hd := fun _ _ => 0, sl := fun _ => 0, bt := fun _ => 0, kd := fun _ => 7, ft := 0 }
def newG (g a s : Nat) : TM := (((zT a s).setRt 0 g).setRt 1 a).setRt 2 s
def newT (a s : Nat) : TM := newG 1129270338 a s
theorem zT_ok {a s : Nat} (h : Cfg a s) : (zT a s).Ok := ⟨h, fun f => Nat.pow_pos (by decide), fun i p => Nat.pow_pos (by decide), fun i => Nat.pow_pos (by decide), fun i => Nat.zero_lt_succ 255, fun g => by show 7 ≤ 8; decide⟩
theorem nb_0 (j : Nat) : nb 0 j = 0 := by unfold nb; rw [Nat.zero_div]
theorem zT_byte (a s i : Nat) : byteAt (zT a s) i = 0 := by
  unfold byteAt rootB headB
  show (if _ then (if _ then 0 else nb 0 _) else if _ then nb 0 _ else if _ then nb 0 _ else if _ then 0 else 0) = 0
  simp only [nb_0, ite_self]
theorem zT_bytes (a s : Nat) : nl0 a s = (zT a s).bytes := by
  unfold nl0 TM.bytes
  apply List.ext_getElem
  · simp; rfl
  · intro i h1 h2
    simp [zT_byte]
theorem putL_rt {t : TM} (h : t.Ok) (f v : Nat) (hf : f < 21) (hv : v < 256 ^ fldW f) : putL t.bytes (fldA f) (fldW f) v = (t.setRt f v).bytes := by
  have ha := at_rt h f hf
  refine putL_ok _ _ _ _ _ ha.wid ha.div (by rw [TM.bytes_len]; exact ha.fit) hv (by rw [TM.bytes_len, TM.bytes_len]; rfl) (fun i hi => ?_)
  rw [TM.bytes_len] at hi
  rw [TM.bytes_get _ _ hi, TM.bytes_get (t.setRt f v) i hi, setRt_byte h f v hf i]
theorem newG_ok {g a s : Nat} (hg : g < 4294967296) (h : Cfg a s) : (newG g a s).Ok := by
  have h2 := h.a2
  have h3 := h.s3
  have k1 := setRt_ok (zT_ok h) 0 g hg
  have k2 := setRt_ok k1 1 a (show a < 4294967296 by omega)
  exact setRt_ok k2 2 s (show s < 4294967296 by omega)
theorem newG_bytes {g a s : Nat} (hg : g < 4294967296) (h : Cfg a s) : nl3 g a s = (newG g a s).bytes := by
  have h2 := h.a2
  have h3 := h.s3
  have k1 := setRt_ok (zT_ok h) 0 g hg
  have k2 := setRt_ok k1 1 a (show a < 4294967296 by omega)
  have e1 : nl1 g a s = ((zT a s).setRt 0 g).bytes := by unfold nl1; rw [zT_bytes]; exact putL_rt (zT_ok h) 0 g (by decide) hg
  have e2 : nl2 g a s = (((zT a s).setRt 0 g).setRt 1 a).bytes := by unfold nl2; rw [e1]; exact putL_rt k1 1 a (by decide) (show a < 4294967296 by omega)
  unfold nl3 newG
  rw [e2]
  exact putL_rt k2 2 s (by decide) (show s < 4294967296 by omega)

def mk1 (x v : Nat) (r : Rn) : Nat := if r.1 / 4 ≤ x ∧ x < (r.1 + r.2.1) / 4 then r.2.2 else v
theorem marks_get (x : Nat) : ∀ (l : List Rn) (ks : List Nat), x < ks.length → (l.foldl markR ks)[x]?.getD 0 = l.foldl (mk1 x) (ks[x]?.getD 0)
  | [], ks, h => rfl
  | r :: l, ks, h => by
    rw [List.foldl_cons, List.foldl_cons, marks_get x l _ (by rw [markR_len]; exact h)]
    congr 1
    unfold markR mk1
    rw [setR_get _ _ _ _ _ h]
    rfl
theorem fold_layStep (x v : Nat) (l : List Rn) (e k m : Nat) (hm : lastEnd l = m) (hme : m ≤ e) (h4 : m % 4 = 0) (h5 : e % 4 = 0) : (layStep l e k).foldl (mk1 x) v = if m / 4 ≤ x ∧ x < e / 4 then k else l.foldl (mk1 x) v := by
  unfold layStep
  rw [hm]
  split
  · rw [List.foldl_append]
    show mk1 x _ _ = _
    unfold mk1
    simp only
    have : m + (e - m) = e := by omega
    rw [this]
  · rw [if_neg (by omega)]
theorem newK_get {a s : Nat} (h : Cfg a s) (x : Nat) (hx : x < lsize a s / 4) : (newK a s)[x]?.getD 0 = kindAt (zT a s) x := by
  obtain ⟨e1, e2, e3, e4, e5, e6⟩ := l_ends a s h
  have hz := cfg_sizes h
  unfold newK
  rw [marks_get x _ _ (by simpa using hx)]
  unfold lruns
  rw [fold_layStep _ _ _ _ _ _ e5 (by omega) (by omega) (by omega)]
  unfold l5
  rw [fold_layStep _ _ _ _ _ _ e4 (by omega) (by omega) (by omega)]
  unfold l4
  rw [fold_layStep _ _ _ _ _ _ e3 (by omega) (by omega) (by omega)]
  unfold l3
  rw [fold_layStep _ _ _ _ _ _ e2 (by omega) (by omega) (by omega)]
  unfold l2
  rw [fold_layStep _ _ _ _ _ _ e1 (by omega) (by omega) (by omega)]
  unfold l1
  rw [fold_layStep _ _ _ _ _ 0 rfl (by omega) (by omega) (by omega)]
  unfold kindAt
  show _ = if x < 2 then 1 else if x < 32 then 2 else if 4 * x < lslots a then 3 else if 4 * x < lslots a + 4 * s then 4 else if 4 * x < lbase a s then 8 else 7
  have zz : ([] : List Rn).foldl (mk1 x) ((List.replicate (lsize a s / 4) 0)[x]?.getD 0) = 0 := by show (List.replicate (lsize a s / 4) 0)[x]?.getD 0 = 0; rw [List.getElem?_replicate, if_pos hx]; rfl
  rw [zz]
  by_cases c1 : x < 2
  · rw [if_pos c1, if_neg (by omega), if_neg (by omega), if_neg (by omega), if_neg (by omega), if_neg (by omega), if_pos (by omega)]
  rw [if_neg c1]
  by_cases c2 : x < 32
  · rw [if_pos c2, if_neg (by omega), if_neg (by omega), if_neg (by omega), if_neg (by omega), if_pos (by omega)]
  rw [if_neg c2]
  by_cases c3 : 4 * x < lslots a
  · rw [if_pos c3, if_neg (by omega), if_neg (by omega), if_neg (by omega), if_pos (by omega)]
  rw [if_neg c3]
  by_cases c4 : 4 * x < lslots a + 4 * s
  · rw [if_pos c4, if_neg (by omega), if_neg (by omega), if_pos (by omega)]
  rw [if_neg c4]
  by_cases c5 : 4 * x < lbase a s
  · rw [if_pos c5, if_neg (by omega), if_pos (by omega)]
  rw [if_neg c5, if_pos (by omega)]
theorem newK_eq {a s : Nat} (h : Cfg a s) : newK a s = (zT a s).kinds := by
  apply List.ext_getElem?
  intro x
  rcases Nat.lt_or_ge x (lsize a s / 4) with hx | hx
  · have e := (newK_get h x hx).trans (TM.kinds_get (zT a s) x hx).symm
    have h1 : x < (newK a s).length := by rw [newK_len]; exact hx
    have h2 : x < (zT a s).kinds.length := by rw [TM.kinds_len]; exact hx
    rw [List.getElem?_eq_getElem h1, List.getElem?_eq_getElem h2] at e ⊢
    simpa using e
  · rw [List.getElem?_eq_none (by rw [newK_len]; exact hx), List.getElem?_eq_none (by rw [TM.kinds_len]; exact hx)]
theorem newG_ms {g a s : Nat} (hg : g < 4294967296) (h : Cfg a s) : ({ a := a, s := s, ks := newK a s, l := nl3 g a s, ft := 0 } : MS) = (newG g a s).ms := by
  rw [newK_eq h, newG_bytes hg h]
  rfl
theorem newM_ms {a s : Nat} (h : Cfg a s) : newM a s = (newT a s).ms := by
  have e : ∀ g, g < 4294967296 → nlk g a s 3 = (newG g a s).bytes := fun g hg => by rw [nlk_3, newG_bytes hg h]
  have k : newL a s = (newG 1129270338 a s).bytes := by
    unfold newL newLk
    exact e _ (by decide)
  unfold newM newT
  rw [k, newK_eq h]
  generalize (1129270338 : Nat) = g
  rfl
theorem newT_ok {a s : Nat} (h : Cfg a s) : (newT a s).Ok := newG_ok (by decide) h
theorem newT_rt (a s f : Nat) (hf : 3 ≤ f) : (newT a s).rt f = 0 := by
  unfold newT newG
  rw [TM.setRt_rt, if_neg (by omega), TM.setRt_rt, if_neg (by omega), TM.setRt_rt, if_neg (by omega)]
  rfl

def NewT (w : World) (a s : Nat) (e : Ending) (w' : World) : Prop :=
  ∃ q : MH, e = .returned (.pointer (some ⟨q.m, 0, none⟩)) ∧ IsT w' q (newT a s) ∧ (∀ k ∈ q.blocks, w.heap.size ≤ k) ∧ Fr [] w w'
theorem tnew (w : World) (hM : TabM w) (a s : Nat) (h : Cfg a s) : Calls Tryd.prog 17 #[cfgV a s] w (NewT w a s) := by
  refine (mnew_any w hM a s h).mono fun e w' ⟨q, he, hm, hq, hf⟩ => ⟨q, he, ⟨newT_ok h, ?_, hM.fr hf (by simp), fun k hk => Nat.le_trans hM.size (hq k hk)⟩, hq, hf⟩
  rw [← newM_ms h]
  exact hm
end Go.Proofs.YtcagljjbiodcoaaDoor
