/- Several texts in one. -/
import Derived.Test.YtgoogihfggndpaaGreatDoorGA
import Derived.Test.YtgoogihfggndpaaGreatDoorGI
import Derived.Test.YtgoogihfggndpaaGreatDoorGJ
import Derived.Test.YtgoogihfggndpaaGreatDoorGM
import Derived.Test.YtgoogihfggndpaaGreatDoorGD
/- Runs of a memory with slabs: pieces that tile it, each joined to the last one if that is of its kind. Plain words. -/
namespace Go.Proofs.YtgoogihfggndpaaGreatDoor
set_option linter.unusedVariables false
set_option linter.unusedSimpArgs false
open Go.RowKit

/-- Runs with one more. -/
def withR (l : List Rn) (r : Rn) : List Rn := match l.getLast? with | some x => if x.2.2 = r.2.2 then l.dropLast ++ [(x.1, x.2.1 + r.2.1, x.2.2)] else l ++ [r] | none => [r]
theorem withR_nil (r : Rn) : withR [] r = [r] := rfl
theorem withR_snoc (l : List Rn) (x r : Rn) : withR (l ++ [x]) r = if x.2.2 = r.2.2 then l ++ [(x.1, x.2.1 + r.2.1, x.2.2)] else l ++ [x] ++ [r] := by
  unfold withR
  rw [List.getLast?_concat]
  simp only [List.dropLast_concat]
def sc4 (r : Rn) : Rn := (4 * r.1, 4 * r.2.1, r.2.2)
/-- A piece of a whole: where it begins, that it is of one kind. -/
structure Pc (K : List Nat) (x : Nat) (r : Rn) : Prop where
  at_ : r.1 = 4 * x
  len : ∃ m, 0 < m ∧ r.2.1 = 4 * m ∧ x + m ≤ K.length ∧ ∀ g, x ≤ g → g < x + m → K[g]?.getD 0 = r.2.2
/-- Runs as far as a place. -/
def Upto (K : List Nat) (x : Nat) (l : List Rn) : Prop := (x = 0 ∧ l = []) ∨ ∃ G f, f < x ∧ x ≤ K.length ∧ x ≤ runEnd K f ∧ l = (G ++ [(f, x - f, K[f]?.getD 0)]).map sc4 ∧ runs K = G ++ runsFrom K f
theorem runEnd_ge {K : List Nat} {f y k : Nat} (hf : f < y) (hy : y ≤ K.length) (h : ∀ g, f ≤ g → g < y → K[g]?.getD 0 = k) : y ≤ runEnd K f := by
  rcases Nat.lt_or_ge (runEnd K f) y with hl | hl
  · have h1 := runEnd_stop K f (by omega)
    have h2 := runEnd_lt K f (by omega)
    exact absurd ((h _ (by omega) hl).trans (h f (by omega) hf).symm) h1
  · exact hl
theorem Upto.step {K : List Nat} {x : Nat} {l : List Rn} (h : Upto K x l) {r : Rn} (hp : Pc K x r) : Upto K (x + r.2.1 / 4) (withR l r) := by
  obtain ⟨m, m0, em, hm, hk⟩ := hp.len
  have ea := hp.at_
  obtain ⟨ra, rl, rk⟩ := r
  simp only at em ea hk ⊢
  have e4 : rl / 4 = m := by omega
  rw [e4]
  refine .inr ?_
  rcases h with ⟨rfl, rfl⟩ | ⟨G, f, h1, h2, h3, rfl, h5⟩
  · have hk0 := hk 0 (by omega) (by omega)
    refine ⟨[], 0, by omega, hm, runEnd_ge (by omega) hm (fun g _ hg => hk g (by omega) hg), ?_, by rw [List.nil_append, runs_from]⟩
    rw [withR_nil, hk0, List.nil_append]
    simp [sc4]
    omega
  · have hkf : ∀ g, f ≤ g → g < x → K[g]?.getD 0 = K[f]?.getD 0 := fun g g1 g2 => runEnd_in K f g g1 (by omega)
    rw [List.map_append, List.map_cons, List.map_nil, withR_snoc]
    by_cases hs : K[f]?.getD 0 = rk
    · rw [if_pos (show (sc4 (f, x - f, K[f]?.getD 0)).2.2 = rk from hs)]
      refine ⟨G, f, by omega, hm, runEnd_ge (by omega) hm (k := rk) (fun g g1 g2 => ?_), ?_, h5⟩
      · rcases Nat.lt_or_ge g x with hl | hl
        · rw [hkf g g1 hl, hs]
        · exact hk g hl g2
      · rw [List.map_append]
        simp [sc4]
        omega
    · rw [if_neg (show ¬ (sc4 (f, x - f, K[f]?.getD 0)).2.2 = rk from hs)]
      have hre : runEnd K f = x := by
        rcases Nat.lt_or_ge x (runEnd K f) with hl | hl
        · exact absurd ((runEnd_in K f x (by omega) hl).symm.trans (hk x (by omega) (by omega))) hs
        · omega
      refine ⟨G ++ [(f, x - f, K[f]?.getD 0)], x, by omega, hm, runEnd_ge (by omega) hm (fun g g1 g2 => hk g g1 g2), ?_, ?_⟩
      · rw [hk x (by omega) (by omega), List.map_append (l₂ := [_]), List.map_append]
        simp [sc4]
        omega
      · rw [h5, runsFrom_step K f (by omega), hre, List.append_assoc]
        rfl
theorem Upto.done {K : List Nat} {l : List Rn} (h : Upto K K.length l) : l = (runs K).map sc4 := by
  rcases h with ⟨h0, rfl⟩ | ⟨G, f, h1, h2, h3, rfl, h5⟩
  · have : K = [] := List.eq_nil_of_length_eq_zero h0
    rw [this]; rfl
  · have he : runEnd K f = K.length := Nat.le_antisymm (runEnd_le K f (by omega)) h3
    rw [h5, runsFrom_step K f (by omega), he, runsFrom_done K K.length (Nat.le_refl _)]
/-- Pieces one after the other. -/
def Pcs (K : List Nat) : Nat → List Rn → Nat → Prop
  | x, [], y => x = y
  | x, r :: l, y => Pc K x r ∧ Pcs K (x + r.2.1 / 4) l y
theorem Upto.steps {K : List Nat} : ∀ {p : List Rn} {x y : Nat} {l : List Rn}, Upto K x l → Pcs K x p y → Upto K y (p.foldl withR l)
  | [], x, y, l, h, hp => by obtain rfl : x = y := hp; exact h
  | r :: p, x, y, l, h, hp => Upto.steps (p := p) (h.step hp.1) hp.2
theorem Pcs.app {K : List Nat} : ∀ {p p' : List Rn} {x y z : Nat}, Pcs K x p y → Pcs K y p' z → Pcs K x (p ++ p') z
  | [], _, x, y, z, h, h' => by obtain rfl : x = y := h; exact h'
  | _ :: p, _, _, _, _, h, h' => ⟨h.1, Pcs.app (p := p) h.2 h'⟩
theorem pcs_range {K : List Nat} {s x : Nat} (f : Nat → Rn) (h4 : s % 4 = 0) : ∀ n, (∀ k, k < n → (f k).2.1 = s ∧ Pc K (x + s / 4 * k) (f k)) → Pcs K x ((List.range n).map f) (x + s / 4 * n)
  | 0, _ => by show x = x + s / 4 * 0; omega
  | n + 1, h => by
    rw [List.range_succ, List.map_append]
    refine Pcs.app (pcs_range f h4 n (fun k hk => h k (by omega))) ?_
    obtain ⟨h1, h2⟩ := h n (by omega)
    refine ⟨h2, ?_⟩
    show x + s / 4 * n + (f n).2.1 / 4 = x + s / 4 * (n + 1)
    rw [h1, Nat.mul_succ]
    omega
/-- A slab's pieces. -/
def blkR (b : Nat) (S : SS) (i k : Nat) : Rn := (adrB b i (S.cls i) k, csz (S.cls i), if adrB b i (S.cls i) k ∈ S.lv i then 5 else 6)
def padR (b : Nat) (S : SS) (i : Nat) : List Rn := if 0 < cpad (S.cls i) then [(b + 1024 * i + 1024 - cpad (S.cls i), cpad (S.cls i), 8)] else []
def slabR (b : Nat) (S : SS) (i : Nat) : List Rn := if S.cls i = 0 then [(b + 1024 * i, 1024, 7)] else (List.range (nbk (S.cls i))).map (blkR b S i) ++ padR b S i
def allR (b : Nat) (S : SS) : Nat → List Rn
  | 0 => []
  | n + 1 => allR b S n ++ slabR b S n
theorem kdp {t : TM} (hok : t.Ok) {x n k : Nat} (h : KdOn t x n k) (h4 : x % 4 = 0) (hn : n % 4 = 0) (n0 : 0 < n) (hl : x + n ≤ lsize t.a t.s) : Pc t.kinds (x / 4) (x, n, k) := by
  have := lsize_4 t.a t.s
  refine ⟨by simp only; omega, n / 4, by omega, by simp only; omega, by rw [TM.kinds_len]; omega, fun g g1 g2 => ?_⟩
  rw [TM.kinds_get _ _ (by omega)]
  exact h g g1 (by omega)
theorem slab_pcs {t : TM} {S : SS} (hok : t.Ok) (hs : SlI t S) {i : Nat} (hi : i < t.a) : Pcs t.kinds (sla t i / 4) (slabR (lbase t.a t.s) S i) (sla t (i + 1) / 4) := by
  have h1 := hs.each i hi
  obtain ⟨s1, s2, s3, s4, s5⟩ := sla_ok hok i hi
  have es : sla t (i + 1) = sla t i + 1024 := by unfold sla; omega
  unfold slabR
  by_cases h0 : S.cls i = 0
  · obtain ⟨_, _, hk, _⟩ := h1.z h0
    rw [if_pos h0]
    refine ⟨kdp hok hk (by omega) (by decide) (by decide) s2, ?_⟩
    show sla t i / 4 + 1024 / 4 = _
    omega
  · have h9 := h1.c9
    obtain ⟨z1, z2, z3, z4, z5, z6, z7⟩ := csz_tab (S.cls i) (by omega) h9
    rw [if_neg h0]
    refine Pcs.app (y := sla t i / 4 + csz (S.cls i) / 4 * nbk (S.cls i)) (pcs_range _ (by omega) _ (fun k hk => ⟨rfl, ?_⟩)) ?_
    · have ha : adrB (lbase t.a t.s) i (S.cls i) k = adr t i (S.cls i) k := rfl
      obtain ⟨a1, a2, a3⟩ := adr_ok (t := t) hok hi ⟨by omega, h9⟩ hk
      have hle : sla t i + csz (S.cls i) * nbk (S.cls i) ≤ sla t i + 1024 := by omega
      have ex : sla t i / 4 + csz (S.cls i) / 4 * k = adr t i (S.cls i) k / 4 := by
        unfold adr
        obtain ⟨d, hd⟩ : ∃ d, csz (S.cls i) = 4 * d := ⟨csz (S.cls i) / 4, by omega⟩
        rw [hd, Nat.mul_assoc, Nat.mul_div_cancel_left _ (by decide : 0 < 4)]
        omega
      rw [ex]
      unfold blkR
      rw [ha]
      rcases h1.mem' h0 hk with hm | hm
      · have hn : adr t i (S.cls i) k ∉ S.lv i := fun hl => by
          have := h1.nodup h0
          rw [List.nodup_append] at this
          exact this.2.2 _ hm _ hl rfl
        rw [if_neg hn]
        exact kdp hok (h1.free.kd _ hm) (by omega) (by omega) (by omega) (by omega)
      · rw [if_pos hm]
        exact kdp hok (h1.live _ hm) (by omega) (by omega) (by omega) (by omega)
    · have ex : sla t i / 4 + csz (S.cls i) / 4 * nbk (S.cls i) = (sla t i + csz (S.cls i) * nbk (S.cls i)) / 4 := by
        obtain ⟨d, hd⟩ : ∃ d, csz (S.cls i) = 4 * d := ⟨csz (S.cls i) / 4, by omega⟩
        rw [hd, Nat.mul_assoc, Nat.mul_div_cancel_left _ (by decide : 0 < 4)]
        omega
      have m4 : (csz (S.cls i) * nbk (S.cls i)) % 4 = 0 := by
        obtain ⟨d, hd⟩ : ∃ d, csz (S.cls i) = 4 * d := ⟨csz (S.cls i) / 4, by omega⟩
        rw [hd, Nat.mul_assoc]; omega
      rw [ex]
      unfold padR
      by_cases hp : 0 < cpad (S.cls i)
      · rw [if_pos hp]
        have e1 : lbase t.a t.s + 1024 * i + 1024 - cpad (S.cls i) = sla t i + csz (S.cls i) * nbk (S.cls i) := by unfold sla; omega
        rw [e1]
        refine ⟨kdp hok (h1.pk h0) (by omega) (by omega) hp (by omega), ?_⟩
        show (sla t i + csz (S.cls i) * nbk (S.cls i)) / 4 + cpad (S.cls i) / 4 = _
        omega
      · rw [if_neg hp]
        show (sla t i + csz (S.cls i) * nbk (S.cls i)) / 4 = _
        omega
theorem all_pcs {t : TM} {S : SS} (hok : t.Ok) (hs : SlI t S) : ∀ n, n ≤ t.a → Pcs t.kinds (lbase t.a t.s / 4) (allR (lbase t.a t.s) S n) (sla t n / 4)
  | 0, _ => by show lbase t.a t.s / 4 = sla t 0 / 4; unfold sla; rfl
  | n + 1, h => Pcs.app (all_pcs hok hs n (by omega)) (slab_pcs hok hs (by omega))
theorem base_pcs {t : TM} (hok : t.Ok) : Pcs t.kinds 0 (rrun5 t.a t.s) (lbase t.a t.s / 4) := by
  have hc := hok.cfg
  obtain ⟨z1, z2, z3, z4, z5, z6, z7⟩ := cfg_sizes hc
  obtain ⟨c1, c2, c3, c4, c5⟩ := hc
  have hk : ∀ x n k, (∀ g, x / 4 ≤ g → g < (x + n) / 4 → kindAt t g = k) → x % 4 = 0 → n % 4 = 0 → 0 < n → x + n ≤ lsize t.a t.s → Pc t.kinds (x / 4) (x, n, k) := fun x n k h h4 hn n0 hl => kdp hok h h4 hn n0 hl
  have e3 : Pcs t.kinds 0 (rrun4 t.a t.s) ((lslots t.a + 4 * t.s) / 4) := by
    have p1 := hk 0 8 1 (fun g g1 g2 => by unfold kindAt; rw [if_pos (by omega)]) (by decide) (by decide) (by decide) (by omega)
    have p2 := hk 8 120 2 (fun g g1 g2 => by unfold kindAt; rw [if_neg (by omega), if_pos (by omega)]) (by decide) (by decide) (by decide) (by omega)
    have p3 := hk 128 (16 * t.a) 3 (fun g g1 g2 => by unfold kindAt; rw [if_neg (by omega), if_neg (by omega), if_pos (by omega)]) (by decide) (by omega) (by omega) (by omega)
    have p4 := hk (128 + 16 * t.a) (4 * t.s) 4 (fun g g1 g2 => by unfold kindAt; rw [if_neg (by omega), if_neg (by omega), if_neg (by omega), if_pos (by omega)]) (by omega) (by omega) (by omega) (by omega)
    refine ⟨p1, p2, ?_, ?_⟩
    · exact p3
    · have e : 0 + 8 / 4 + 120 / 4 + 16 * t.a / 4 = (128 + 16 * t.a) / 4 := by omega
      show Pcs t.kinds (0 + 8 / 4 + 120 / 4 + 16 * t.a / 4) [(128 + 16 * t.a, 4 * t.s, 4)] _
      rw [e]
      refine ⟨p4, ?_⟩
      show (128 + 16 * t.a) / 4 + 4 * t.s / 4 = _
      omega
  unfold rrun5
  by_cases hp : 0 < rpad t.a t.s
  · rw [if_pos hp]
    unfold rpad at *
    refine Pcs.app e3 ⟨?_, ?_⟩
    · have := hk (128 + 16 * t.a + 4 * t.s) (lbase t.a t.s - (128 + 16 * t.a + 4 * t.s)) 8 (fun g g1 g2 => by unfold kindAt; rw [if_neg (by omega), if_neg (by omega), if_neg (by omega), if_neg (by omega), if_pos (by omega)]) (by omega) (by omega) (by omega) (by omega)
      rw [z1]
      exact this
    · show (lslots t.a + 4 * t.s) / 4 + (lbase t.a t.s - (128 + 16 * t.a + 4 * t.s)) / 4 = _
      omega
  · rw [if_neg hp]
    unfold rpad at hp
    have : lslots t.a + 4 * t.s = lbase t.a t.s := by omega
    rw [← this]
    exact e3
theorem rrun5_fold (a s : Nat) : (rrun5 a s).foldl withR [] = rrun5 a s := by
  unfold rrun5 rrun4 rrun3
  split <;> rfl
/-- The runs of a memory with slabs: as the document tells them. -/
theorem runs_slabs {t : TM} {S : SS} (hok : t.Ok) (hs : SlI t S) : (allR (lbase t.a t.s) S t.a).foldl withR (rrun5 t.a t.s) = (runs t.kinds).map sc4 := by
  refine Upto.done ?_
  have hz := cfg_sizes hok.cfg
  have e : t.kinds.length = sla t t.a / 4 := by rw [TM.kinds_len]; unfold sla; congr 1
  rw [e]
  refine Upto.steps ?_ (all_pcs hok hs t.a (Nat.le_refl _))
  rw [← rrun5_fold]
  exact Upto.steps (.inl ⟨rfl, rfl⟩) (base_pcs hok)
theorem rCells_sc4 (l : List (Nat × Nat × Nat)) : rCells (l.map sc4) = l.flatMap fun r => [.int .i64 (4 * r.1), .int .i64 (4 * r.2.1), .int .i64 r.2.2] := by
  unfold rCells sc4
  rw [List.flatMap_map]
  simp
end Go.Proofs.YtgoogihfggndpaaGreatDoor

/- The memory's slabs: which blocks are live, how much room there is, which runs. -/
namespace Go.Proofs.YtgoogihfggndpaaGreatDoor
set_option linter.unusedVariables false
set_option linter.unusedSimpArgs false
open Go.RowKit

section
variable {w : World} {q : MH} {t : TM} {S : SS} {B : Nat}
end
end Go.Proofs.YtgoogihfggndpaaGreatDoor

/- Package slab: Live, Room; the memory's runs. -/
namespace Go.Proofs.YtgoogihfggndpaaGreatDoor
set_option linter.unusedVariables false
set_option linter.unusedSimpArgs false
open Go.RowKit

section
variable {w : World} {q : MH} {t : TM} {S : SS} {B : Nat}
theorem mruns (h : IsT w q t) : Calls Tryz.prog 15 #[.pointer (some ⟨q.m, 0, none⟩)] w fun e w' => ∃ v, e = .returned v ∧ OwnR w' w.heap.size v ((runs t.kinds).map sc4) ∧ Fr [] w w' := by
  have hn := h.m.none
  have c0 := h.m.st.cell 0
  obtain ⟨lk, hw⟩ := h.m.wt
  have hks : t.ms.ks = t.kinds := rfl
  rw [hks] at hw
  have hf := Lib.hid (fun W hW => (callsIn_wide.1 (runs_in 4 (by omega) W q.pw q.bw t.kinds lk t.ms.ft hW)))
  simp at c0
  have HW := Lib.hid hw
  have hl := hw.st.lt
  have HR := Lib.hid (show ∀ W v base, W.ownsRow base 84 3 v (runs t.kinds).length (runCells (runs t.kinds)) → OwnR W base v ((runs t.kinds).map sc4) from fun W v base ho => by
    unfold OwnR
    rw [List.length_map, rCells_sc4]
    exact ho)
  have hcf : ∀ W, IsW W q.pw q.bw t.kinds lk t.ms.ft → Calls Tryz.prog 56 #[.agg #[.pointer (some ⟨q.pw, 0, none⟩)]] W fun e w' => ∃ v, e = .returned v ∧ OwnR w' W.heap.size v ((runs t.kinds).map sc4) ∧ Fr [] W w' := fun W hW => by
    have hfa := hf.out _ (hW.fr (S := []) ((Fr.refl _ _).alloc (.cells #[.pointer (some ⟨q.pw, 0, none⟩)] 99)) (by simp) (by simp))
    have HRW := Lib.hid (fun (w' : World) (v : Value) (ho : w'.ownsRow (W.alloc (.cells #[.pointer (some ⟨q.pw, 0, none⟩)] 99)).heap.size 84 3 v (runs t.kinds).length (runCells (runs t.kinds))) => ownR_base (base := W.heap.size) (by simp) (HR.out _ _ _ ho))
    clear hf hW HW
    go_enter Tryz.func56, Tryz.ntmps56
    go_wp2_with fail
    with_reducible refine hfa.mono ?_
    rintro e w' ⟨v, rfl, ho, f⟩
    have HO := Lib.hid (HRW.out _ _ ho)
    have HF := Lib.hid (((Fr.refl [] W).alloc (.cells #[.pointer (some ⟨q.pw, 0, none⟩)] 99)).trans f)
    clear ho f HRW hfa
    go_wp2_with fail
    go_ret
    exact ⟨_, rfl, HO.out, HF.out⟩
  have hcw := hcf w hw
  generalize t.kinds = ks at *
  clear h hw hf hks
  go_enter Tryz.func15, Tryz.ntmps15
  go_wp2_with fail
  with_reducible refine hn.mono ?_
  rintro e w' ⟨rfl, rfl⟩
  go_wp2_with fail
  with_reducible refine hcw.mono ?_
  rintro e w1 ⟨v, rfl, ho, f⟩
  have HO := Lib.hid ho
  clear ho
  go_wp2_with fail
  go_ret
  exact ⟨_, rfl, HO.out, f⟩
end
end Go.Proofs.YtgoogihfggndpaaGreatDoor
