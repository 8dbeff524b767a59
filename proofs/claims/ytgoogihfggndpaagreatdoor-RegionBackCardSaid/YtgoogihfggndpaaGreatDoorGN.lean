/- Several texts in one. -/
import Derived.Test.YtgoogihfggndpaaGreatDoorGA
import Derived.Test.YtgoogihfggndpaaGreatDoorGI
import Derived.Test.YtgoogihfggndpaaGreatDoorGJ
import Derived.Test.YtgoogihfggndpaaGreatDoorGM
import Derived.Test.YtgoogihfggndpaaGreatDoorGD
/- Runs of a memory with slabs: pieces that tile it, each joined to the last one if that is of its kind. Plain words. -/
namespace Go.Proofs.YtgoogihfggndpaaGreatDoor
set_option linter.unusedVariables false
set_option linter.unusedSimpArgs false
open Go.RowKit

/-- Runs with one more. -/
def withR (l : List Rn) (r : Rn) : List Rn := match l.getLast? with | some x => if x.2.2 = r.2.2 then l.dropLast ++ [(x.1, x.2.1 + r.2.1, x.2.2)] else l ++ [r] | none => [r]
theorem withR_nil (r : Rn) : withR [] r = [r] := rfl
theorem withR_snoc (l : List Rn) (x r : Rn) : withR (l ++ [x]) r = if x.2.2 = r.2.2 then l ++ [(x.1, x.2.1 + r.2.1, x.2.2)] else l ++ [x] ++ [r] := by
  unfold withR
  rw [List.getLast?_concat]
  simp only [List.dropLast_concat]
def sc4 (r : Rn) : Rn := (4 * r.1, 4 * r.2.1, r.2.2)
/-- A piece of a whole: where it begins, that it is of one kind. -/
structure Pc (K : List Nat) (x : Nat) (r : Rn) : Prop where
  at_ : r.1 = 4 * x
  len : ∃ m, 0 < m ∧ r.2.1 = 4 * m ∧ x + m ≤ K.length ∧ ∀ g, x ≤ g → g < x + m → K[g]?.getD 0 = r.2.2
/-- Runs as far as a place. -/
def Upto (K : List Nat) (x : Nat) (l : List Rn) : Prop := (x = 0 ∧ l = []) ∨ ∃ G f, f < x ∧ x ≤ K.length ∧ x ≤ runEnd K f ∧ l = (G ++ [(f, x - f, K[f]?.getD 0)]).map sc4 ∧ runs K = G ++ runsFrom K f
theorem runEnd_ge {K : List Nat} {f y k : Nat} (hf : f < y) (hy : y ≤ K.length) (h : ∀ g, f ≤ g → g < y → K[g]?.getD 0 = k) : y ≤ runEnd K f := by
  rcases Nat.lt_or_ge (runEnd K f) y with hl | hl
  · have h1 := runEnd_stop K f (by omega)
    have h2 := runEnd_lt K f (by omega)
    exact absurd ((h _ (by omega) hl).trans (h f (by omega) hf).symm) h1
  · exact hl
theorem Upto.step {K : List Nat} {x : Nat} {l : List Rn} (h : Upto K x l) {r : Rn} (hp : Pc K x r) : Upto K (x + r.2.1 / 4) (withR l r) := by
  obtain ⟨m, m0, em, hm, hk⟩ := hp.len
  have ea := hp.at_
  obtain ⟨ra, rl, rk⟩ := r
  simp only at em ea hk ⊢
  have e4 : rl / 4 = m := by omega
  rw [e4]
  refine .inr ?_
  rcases h with ⟨rfl, rfl⟩ | ⟨G, f, h1, h2, h3, rfl, h5⟩
  · have hk0 := hk 0 (by omega) (by omega)
    refine ⟨[], 0, by omega, hm, runEnd_ge (by omega) hm (fun g _ hg => hk g (by omega) hg), ?_, by rw [List.nil_append, runs_from]⟩
    rw [withR_nil, hk0, List.nil_append]
    simp [sc4]
    omega
  · have hkf : ∀ g, f ≤ g → g < x → K[g]?.getD 0 = K[f]?.getD 0 := fun g g1 g2 => runEnd_in K f g g1 (by omega)
    rw [List.map_append, List.map_cons, List.map_nil, withR_snoc]
    by_cases hs : K[f]?.getD 0 = rk
    · rw [if_pos (show (sc4 (f, x - f, K[f]?.getD 0)).2.2 = rk from hs)]
      refine ⟨G, f, by omega, hm, runEnd_ge (by omega) hm (k := rk) (fun g g1 g2 => ?_), ?_, h5⟩
      · rcases Nat.lt_or_ge g x with hl | hl
        · rw [hkf g g1 hl, hs]
        · exact hk g hl g2
      · rw [List.map_append]
        simp [sc4]
        omega
    · rw [if_neg (show ¬ (sc4 (f, x - f, K[f]?.getD 0)).2.2 = rk from hs)]
      have hre : runEnd K f = x := by
        rcases Nat.lt_or_ge x (runEnd K f) with hl | hl
        · exact absurd ((runEnd_in K f x (by omega) hl).symm.trans (hk x (by omega) (by omega))) hs
        · omega
      refine ⟨G ++ [(f, x - f, K[f]?.getD 0)], x, by omega, hm, runEnd_ge (by omega) hm (fun g g1 g2 => hk g g1 g2), ?_, ?_⟩
      · rw [hk x (by omega) (by omega), List.map_append (l₂ := [_]), List.map_append]
        simp [sc4]
        omega
      · rw [h5, runsFrom_step K f (by omega), hre, List.append_assoc]
        rfl
theorem Upto.done {K : List Nat} {l : List Rn} (h : Upto K K.length l) : l = (runs K).map sc4 := by
  rcases h with ⟨h0, rfl⟩ | ⟨G, f, h1, h2, h3, rfl, h5⟩
  · have : K = [] := List.eq_nil_of_length_eq_zero h0
    rw [this]; rfl
  · have he : runEnd K f = K.length := Nat.le_antisymm (runEnd_le K f (by omega)) h3
    rw [h5, runsFrom_step K f (by omega), he, runsFrom_done K K.length (Nat.le_refl _)]
/-- Pieces one after the other. -/
def Pcs (K : List Nat) : Nat → List Rn → Nat → Prop
  | x, [], y => x = y
  | x, r :: l, y => Pc K x r ∧ Pcs K (x + r.2.1 / 4) l y
theorem Upto.steps {K : List Nat} : ∀ {p : List Rn} {x y : Nat} {l : List Rn}, Upto K x l → Pcs K x p y → Upto K y (p.foldl withR l)
  | [], x, y, l, h, hp => by obtain rfl : x = y := hp; exact h
  | r :: p, x, y, l, h, hp => Upto.steps (p := p) (h.step hp.1) hp.2
theorem Pcs.app {K : List Nat} : ∀ {p p' : List Rn} {x y z : Nat}, Pcs K x p y → Pcs K y p' z → Pcs K x (p ++ p') z
  | [], _, x, y, z, h, h' => by obtain rfl : x = y := h; exact h'
  | _ :: p, _, _, _, _, h, h' => ⟨h.1, Pcs.app (p := p) h.2 h'⟩
theorem pcs_range {K : List Nat} {s x : Nat} (f : Nat → Rn) (h4 : s % 4 = 0) : ∀ n, (∀ k, k < n → (f k).2.1 = s ∧ Pc K (x + s / 4 * k) (f k)) → Pcs K x ((List.range n).map f) (x + s / 4 * n)
  | 0, _ => by show x = x + s / 4 * 0; omega
  | n + 1, h => by
    rw [List.range_succ, List.map_append]
    refine Pcs.app (pcs_range f h4 n (fun k hk => h k (by omega))) ?_
    obtain ⟨h1, h2⟩ := h n (by omega)
    refine ⟨h2, ?_⟩
    show x + s / 4 * n + (f n).2.1 / 4 = x + s / 4 * (n + 1)
    rw [h1, Nat.mul_succ]
    omega
/-- A slab's pieces. -/
def blkR (b : Nat) (S : SS) (i k : Nat) : Rn := (adrB b i (S.cls i) k, csz (S.cls i), if adrB b i (S.cls i) k ∈ S.lv i then 5 else 6)
def padR (b : Nat) (S : SS) (i : Nat) : List Rn := if 0 < cpad (S.cls i) then [(b + 1024 * i + 1024 - cpad (S.cls i), cpad (S.cls i), 8)] else []
def slabR (b : Nat) (S : SS) (i : Nat) : List Rn := if S.cls i = 0 then [(b + 1024 * i, 1024, 7)] else (List.range (nbk (S.cls i))).map (blkR b S i) ++ padR b S i
def allR (b : Nat) (S : SS) : Nat → List Rn
  | 0 => []
  | n + 1 => allR b S n ++ slabR b S n
theorem kdp {t : TM} (hok : t.Ok) {x n k : Nat} (h : KdOn t x n k) (h4 : x % 4 = 0) (hn : n % 4 = 0) (n0 : 0 < n) (hl : x + n ≤ lsize t.a t.s) : Pc t.kinds (x / 4) (x, n, k) := by
  have := lsize_4 t.a t.s
  refine ⟨by simp only; omega, n / 4, by omega, by simp only; omega, by rw [TM.kinds_len]; omega, fun g g1 g2 => ?_⟩
  rw [TM.kinds_get _ _ (by omega)]
  exact h g g1 (by omega)
theorem slab_pcs {t : TM} {S : SS} (hok : t.Ok) (hs : SlI t S) {i : Nat} (hi : i < t.a) : Pcs t.kinds (sla t i / 4) (slabR (lbase t.a t.s) S i) (sla t (i + 1) / 4) := by
  have h1 := hs.each i hi
  obtain ⟨s1, s2, s3, s4, s5⟩ := sla_ok hok i hi
  have es : sla t (i + 1) = sla t i + 1024 := by unfold sla; omega
  unfold slabR
  by_cases h0 : S.cls i = 0
  · obtain ⟨_, _, hk, _⟩ := h1.z h0
    rw [if_pos h0]
    refine ⟨kdp hok hk (by omega) (by decide) (by decide) s2, ?_⟩
    show sla t i / 4 + 1024 / 4 = _
    omega
  · have h9 := h1.c9
    obtain ⟨z1, z2, z3, z4, z5, z6, z7⟩ := csz_tab (S.cls i) (by omega) h9
    rw [if_neg h0]
    refine Pcs.app (y := sla t i / 4 + csz (S.cls i) / 4 * nbk (S.cls i)) (pcs_range _ (by omega) _ (fun k hk => ⟨rfl, ?_⟩)) ?_
    · have ha : adrB (lbase t.a t.s) i (S.cls i) k = adr t i (S.cls i) k := rfl
      obtain ⟨a1, a2, a3⟩ := adr_ok (t := t) hok hi ⟨by omega, h9⟩ hk
      have hle : sla t i + csz (S.cls i) * nbk (S.cls i) ≤ sla t i + 1024 := by omega
      have ex : sla t i / 4 + csz (S.cls i) / 4 * k = adr t i (S.cls i) k / 4 := by
        unfold adr
        obtain ⟨d, hd⟩ : ∃ d, csz (S.cls i) = 4 * d := ⟨csz (S.cls i) / 4, by omega⟩
        rw [hd, Nat.mul_assoc, Nat.mul_div_cancel_left _ (by decide : 0 < 4)]
        omega
      rw [ex]
      unfold blkR
      rw [ha]
      rcases h1.mem' h0 hk with hm | hm
      · have hn : adr t i (S.cls i) k ∉ S.lv i := fun hl => by
          have := h1.nodup h0
          rw [List.nodup_append] at this
          exact this.2.2 _ hm _ hl rfl
        rw [if_neg hn]
        exact kdp hok (h1.free.kd _ hm) (by omega) (by omega) (by omega) (by omega)
      · rw [if_pos hm]
        exact kdp hok (h1.live _ hm) (by omega) (by omega) (by omega) (by omega)
    · have ex : sla t i / 4 + csz (S.cls i) / 4 * nbk (S.cls i) = (sla t i + csz (S.cls i) * nbk (S.cls i)) / 4 := by
        obtain ⟨d, hd⟩ : ∃ d, csz (S.cls i) = 4 * d := ⟨csz (S.cls i) / 4, by omega⟩
        rw [hd, Nat.mul_assoc, Nat.mul_div_cancel_left _ (by decide : 0 < 4)]
        omega
      have m4 : (csz (S.cls i) * nbk (S.cls i)) % 4 = 0 := by
        obtain ⟨d, hd⟩ : ∃ d, csz (S.cls i) = 4 * d := ⟨csz (S.cls i) / 4, by omega⟩
        rw [hd, Nat.mul_assoc]; omega
      rw [ex]
      unfold padR
      by_cases hp : 0 < cpad (S.cls i)
      · rw [if_pos hp]
        have e1 : lbase t.a t.s + 1024 * i + 1024 - cpad (S.cls i) = sla t i + csz (S.cls i) * nbk (S.cls i) := by unfold sla; omega
        rw [e1]
        refine ⟨kdp hok (h1.pk h0) (by omega) (by omega) hp (by omega), ?_⟩
        show (sla t i + csz (S.cls i) * nbk (S.cls i)) / 4 + cpad (S.cls i) / 4 = _
        omega
      · rw [if_neg hp]
        show (sla t i + csz (S.cls i) * nbk (S.cls i)) / 4 = _
        omega
theorem all_pcs {t : TM} {S : SS} (hok : t.Ok) (hs : SlI t S) : ∀ n, n ≤ t.a → Pcs t.kinds (lbase t.a t.s / 4) (allR (lbase t.a t.s) S n) (sla t n / 4)
  | 0, _ => by show lbase t.a t.s / 4 = sla t 0 / 4; unfold sla; rfl
  | n + 1, h => Pcs.app (all_pcs hok hs n (by omega)) (slab_pcs hok hs (by omega))
theorem base_pcs {t : TM} (hok : t.Ok) : Pcs t.kinds 0 (rrun5 t.a t.s) (lbase t.a t.s / 4) := by
  have hc := hok.cfg
  obtain ⟨z1, z2, z3, z4, z5, z6, z7⟩ := cfg_sizes hc
  obtain ⟨c1, c2, c3, c4, c5⟩ := hc
  have hk : ∀ x n k, (∀ g, x / 4 ≤ g → g < (x + n) / 4 → kindAt t g = k) → x % 4 = 0 → n % 4 = 0 → 0 < n → x + n ≤ lsize t.a t.s → Pc t.kinds (x / 4) (x, n, k) := fun x n k h h4 hn n0 hl => kdp hok h h4 hn n0 hl
  have e3 : Pcs t.kinds 0 (rrun4 t.a t.s) ((lslots t.a + 4 * t.s) / 4) := by
    have p1 := hk 0 8 1 (fun g g1 g2 => by unfold kindAt; rw [if_pos (by omega)]) (by decide) (by decide) (by decide) (by omega)
    have p2 := hk 8 120 2 (fun g g1 g2 => by unfold kindAt; rw [if_neg (by omega), if_pos (by omega)]) (by decide) (by decide) (by decide) (by omega)
    have p3 := hk 128 (16 * t.a) 3 (fun g g1 g2 => by unfold kindAt; rw [if_neg (by omega), if_neg (by omega), if_pos (by omega)]) (by decide) (by omega) (by omega) (by omega)
    have p4 := hk (128 + 16 * t.a) (4 * t.s) 4 (fun g g1 g2 => by unfold kindAt; rw [if_neg (by omega), if_neg (by omega), if_neg (by omega), if_pos (by omega)]) (by omega) (by omega) (by omega) (by omega)
    refine ⟨p1, p2, ?_, ?_⟩
    · exact p3
    · have e : 0 + 8 / 4 + 120 / 4 + 16 * t.a / 4 = (128 + 16 * t.a) / 4 := by omega
      show Pcs t.kinds (0 + 8 / 4 + 120 / 4 + 16 * t.a / 4) [(128 + 16 * t.a, 4 * t.s, 4)] _
      rw [e]
      refine ⟨p4, ?_⟩
      show (128 + 16 * t.a) / 4 + 4 * t.s / 4 = _
      omega
  unfold rrun5
  by_cases hp : 0 < rpad t.a t.s
  · rw [if_pos hp]
    unfold rpad at *
    refine Pcs.app e3 ⟨?_, ?_⟩
    · have := hk (128 + 16 * t.a + 4 * t.s) (lbase t.a t.s - (128 + 16 * t.a + 4 * t.s)) 8 (fun g g1 g2 => by unfold kindAt; rw [if_neg (by omega), if_neg (by omega), if_neg (by omega), if_neg (by omega), if_pos (by omega)]) (by omega) (by omega) (by omega) (by omega)
      rw [z1]
      exact this
    · show (lslots t.a + 4 * t.s) / 4 + (lbase t.a t.s - (128 + 16 * t.a + 4 * t.s)) / 4 = _
      omega
  · rw [if_neg hp]
    unfold rpad at hp
    have : lslots t.a + 4 * t.s = lbase t.a t.s := by omega
    rw [← this]
    exact e3
theorem rrun5_fold (a s : Nat) : (rrun5 a s).foldl withR [] = rrun5 a s := by
  unfold rrun5 rrun4 rrun3
  split <;> rfl
/-- The runs of a memory with slabs: as the document tells them. -/
theorem runs_slabs {t : TM} {S : SS} (hok : t.Ok) (hs : SlI t S) : (allR (lbase t.a t.s) S t.a).foldl withR (rrun5 t.a t.s) = (runs t.kinds).map sc4 := by
  refine Upto.done ?_
  have hz := cfg_sizes hok.cfg
  have e : t.kinds.length = sla t t.a / 4 := by rw [TM.kinds_len]; unfold sla; congr 1
  rw [e]
  refine Upto.steps ?_ (all_pcs hok hs t.a (Nat.le_refl _))
  rw [← rrun5_fold]
  exact Upto.steps (.inl ⟨rfl, rfl⟩) (base_pcs hok)
theorem rCells_sc4 (l : List (Nat × Nat × Nat)) : rCells (l.map sc4) = l.flatMap fun r => [.int .i64 (4 * r.1), .int .i64 (4 * r.2.1), .int .i64 r.2.2] := by
  unfold rCells sc4
  rw [List.flatMap_map]
  simp
end Go.Proofs.YtgoogihfggndpaaGreatDoor

/- The memory's slabs: which blocks are live, how much room there is, which runs. -/
namespace Go.Proofs.YtgoogihfggndpaaGreatDoor
set_option linter.unusedVariables false
set_option linter.unusedSimpArgs false
open Go.RowKit

theorem so_ext : ∀ {l m : List Nat}, l.Pairwise (· < ·) → m.Pairwise (· < ·) → (∀ x, x ∈ l ↔ x ∈ m) → l = m
  | [], [], _, _, _ => rfl
  | [], y :: m, _, _, h => by have := (h y).2 (by simp); simp at this
  | x :: l, [], _, _, h => by have := (h x).1 (by simp); simp at this
  | x :: l, y :: m, hl, hm, h => by
    obtain ⟨l1, l2⟩ := List.pairwise_cons.1 hl
    obtain ⟨m1, m2⟩ := List.pairwise_cons.1 hm
    have e : x = y := by
      rcases List.mem_cons.1 ((h x).1 (by simp)) with e | hx
      · exact e
      · rcases List.mem_cons.1 ((h y).2 (by simp)) with e | hy
        · exact e.symm
        · have := l1 y hy
          have := m1 x hx
          omega
    subst e
    congr 1
    refine so_ext l2 m2 (fun z => ⟨fun hz => ?_, fun hz => ?_⟩)
    · rcases List.mem_cons.1 ((h z).1 (List.mem_cons_of_mem _ hz)) with e | hz'
      · have := l1 z hz; omega
      · exact hz'
    · rcases List.mem_cons.1 ((h z).2 (List.mem_cons_of_mem _ hz)) with e | hz'
      · have := m1 z hz; omega
      · exact hz'
/-- Of the first blocks of a slab, those that are live. -/
def lvP (t : TM) (i c : Nat) (L : List Nat) (j : Nat) : List Nat := ((List.range j).map (adr t i c)).filter fun x => decide (x ∈ L)
theorem lvP_succ (t : TM) (i c : Nat) (L : List Nat) (j : Nat) : lvP t i c L (j + 1) = if adr t i c j ∈ L then lvP t i c L j ++ [adr t i c j] else lvP t i c L j := by
  unfold lvP
  rw [List.range_succ, List.map_append, List.filter_append]
  by_cases h : adr t i c j ∈ L
  · simp [h]
  · simp [h]
theorem lvP_len (t : TM) (i c : Nat) (L : List Nat) (j : Nat) : (lvP t i c L j).length ≤ j := by
  unfold lvP
  exact Nat.le_trans (List.length_filter_le _ _) (by simp)
theorem lvP_all {t : TM} {S : SS} (hs : SlI t S) {i : Nat} (hi : i < t.a) (h0 : S.cls i ≠ 0) : lvP t i (S.cls i) (S.lv i) (nbk (S.cls i)) = S.lv i := by
  have h1 := hs.each i hi
  have hc : 1 ≤ S.cls i ∧ S.cls i ≤ 9 := ⟨by omega, h1.c9⟩
  refine so_ext ?_ h1.so (fun x => ?_)
  · refine List.Pairwise.filter _ (List.Pairwise.map _ (fun a b hab => ?_) List.pairwise_lt_range)
    obtain ⟨c1, c2, c3, c4, c5, c6, c7⟩ := csz_tab (S.cls i) hc.1 hc.2
    unfold adr
    have := Nat.mul_lt_mul_of_pos_left hab (show 0 < csz (S.cls i) by omega)
    omega
  · unfold lvP
    rw [List.mem_filter]
    simp only [decide_eq_true_eq, List.mem_map, List.mem_range]
    constructor
    · exact fun h => h.2
    · intro hx
      obtain ⟨k, hk, e⟩ := h1.mem h0 (.inr hx)
      exact ⟨⟨k, hk, e.symm⟩, hx⟩
section
variable {w : World} {q : MH} {t : TM} {S : SS} {B : Nat}
set_option maxRecDepth 100000 in
theorem peach9 (m : Nat) (i z c l f n p : Int) (k z' : Nat) (hk : k ≤ 9) (hc : c = k) (hz : z = z') (hz4 : z' ≤ 1048576) (F : FuncId) (caps : Array Value) (hcf : ∀ (args : Array Value) (w : World), (callFunc F args).run Tryz.prog w = .ok (.enter F args) w) (Inv : Nat → World → Prop)
    (h0 : Inv 0 (w.alloc (.cells (prC m i z c l f n p) 113))) (hT : ∀ j W, Inv j W → TabM W ∧ Blk W w.heap.size 113 (prC m i z c l f n p))
    (hdo : ∀ j W, j < nbk k → Inv j W → Calls Tryz.prog F (#[.int .i64 (z' + csz k * j : Nat)] ++ caps) W fun e w' => e = .returned (.tuple #[]) ∧ Inv (j + 1) w') :
    Calls Tryz.prog 63 #[.agg (prC m i z c l f n p), .func (.func F) #[] caps] w fun e w' => e = .returned (.tuple #[]) ∧ Inv (nbk k) w' := by
  have hb := Lib.hid (fun W hW => by
    have := cblocks (w := W) hW c
    rw [hc, nbkZ_nat k hk, ← hc] at this
    exact this)
  have hp := Lib.hid (fun W hW j hj => by
    have := cplace (w := W) hW k j ⟨by rcases Nat.eq_zero_or_pos k with e | e; (subst e; simp [nbk, csz] at hj); exact e, hk⟩ hj
    rw [← hc] at this
    exact this)
  have c35 := csz_mul k hk
  obtain ⟨_, c3, c5⟩ := c35
  have hadd : ∀ j, j < nbk k → IntKind.i64.wrap (z + ((csz k * j : Nat) : Int)) = ((z' + csz k * j : Nat) : Int) := fun j hj => by
    have : csz k * j ≤ 512 * 32 := Nat.mul_le_mul c3 (by omega)
    rw [hz, Int.natCast_add]
    exact IntWalk.i64_in _ (by omega)
  have HADD := Lib.hid hadd
  have HDO := Lib.hid hdo
  have HT := Lib.hid hT
  have H0 := Lib.hid h0
  generalize nbk k = N at *
  generalize csz k = s at *
  unfold prC at H0 HT ⊢
  clear hk hc hz hdo hT h0 hadd c3
  go_enter Tryz.func63, Tryz.ntmps63
  go_wp2_with fail
  (have d0 := ((HT.out _ _ H0.out).2).cell 0; have z0 := ((HT.out _ _ H0.out).2).frozen 0; have d1 := ((HT.out _ _ H0.out).2).cell 1; have z1 := ((HT.out _ _ H0.out).2).frozen 1; have d2 := ((HT.out _ _ H0.out).2).cell 2; have z2 := ((HT.out _ _ H0.out).2).frozen 2; have d3 := ((HT.out _ _ H0.out).2).cell 3; have z3 := ((HT.out _ _ H0.out).2).frozen 3; have d4 := ((HT.out _ _ H0.out).2).cell 4; have z4 := ((HT.out _ _ H0.out).2).frozen 4; have d5 := ((HT.out _ _ H0.out).2).cell 5; have z5 := ((HT.out _ _ H0.out).2).frozen 5; have d6 := ((HT.out _ _ H0.out).2).cell 6; have z6 := ((HT.out _ _ H0.out).2).frozen 6; have d7 := ((HT.out _ _ H0.out).2).cell 7; have z7 := ((HT.out _ _ H0.out).2).frozen 7; simp at d0 d1 d2 d3 d4 d5 d6 d7)
  go_wp2_with fail
  with_reducible refine (hb.out _ (HT.out _ _ H0.out).1).mono ?_
  rintro e w1 ⟨rfl, rfl⟩
  clear d0 z0 d1 z1 d2 z2 d3 z3 d4 z4 d5 z5 d6 z6 d7 z7
  go_wp2_with fail
  go_loopw [11] (fun v W => ∃ j : Nat, j ≤ N ∧ v = .int .i64 j ∧ Inv j W) (fun v _ => N - (intOf v).toNat)
  case atStart => exact ⟨0, by omega, rfl, H0.out⟩
  case round =>
    clear H0
    obtain ⟨j, hj, rfl, hI⟩ := hrel
    have HI := Lib.hid hI
    clear hI
    by_cases hlt : j < N
    · have b1 : decide ((j : Int) < N) = true := by simp; omega
      have b1' : decide (j < N) = true := by simp; omega
      have w3 : IntKind.i64.wrap ((j : Int) + 1) = (j : Int) + 1 := IntWalk.i64_in _ (by omega)
      have hpl := hp.out _ (HT.out _ _ HI.out).1 j hlt
      have hd := HDO.out j _ hlt HI.out
      have hw := HADD.out j hlt
      rw [Int.natCast_add] at hd hw
      generalize s * j = sj at *
      (have d0 := ((HT.out _ _ HI.out).2).cell 0; have z0 := ((HT.out _ _ HI.out).2).frozen 0; have d1 := ((HT.out _ _ HI.out).2).cell 1; have z1 := ((HT.out _ _ HI.out).2).frozen 1; have d2 := ((HT.out _ _ HI.out).2).cell 2; have z2 := ((HT.out _ _ HI.out).2).frozen 2; have d3 := ((HT.out _ _ HI.out).2).cell 3; have z3 := ((HT.out _ _ HI.out).2).frozen 3; have d4 := ((HT.out _ _ HI.out).2).cell 4; have z4 := ((HT.out _ _ HI.out).2).frozen 4; have d5 := ((HT.out _ _ HI.out).2).cell 5; have z5 := ((HT.out _ _ HI.out).2).frozen 5; have d6 := ((HT.out _ _ HI.out).2).cell 6; have z6 := ((HT.out _ _ HI.out).2).frozen 6; have d7 := ((HT.out _ _ HI.out).2).cell 7; have z7 := ((HT.out _ _ HI.out).2).frozen 7; simp at d0 d1 d2 d3 d4 d5 d6 d7)
      go_wp2_with fail
      with_reducible refine hpl.mono ?_
      rintro e w2 ⟨rfl, rfl⟩
      clear hpl
      go_wp2_with fail
      with_reducible refine hd.mono ?_
      rintro e w3 ⟨rfl, h3⟩
      have H3 := Lib.hid h3
      clear h3 hd
      clear d0 z0 d1 z1 d2 z2 d3 z3 d4 z4 d5 z5 d6 z6 d7 z7
      go_wp2_with fail
      go_roundw
      case rel => exact ⟨j + 1, by omega, by go_num, H3.out⟩
      case measure => simp [intOf]; omega
    · obtain rfl : j = N := by omega
      have b1 : decide ((j : Int) < j) = false := by simp
      have b1' : decide (j < j) = false := by simp
      go_wp2_with fail
      go_end0
      exact ⟨rfl, HI.out⟩
set_option maxRecDepth 100000 in
theorem slive1 (h : IsH w q t) (G5 G base : Nat) (v : Value) (L : List Nat) (i z c l f n p : Int) (k x kd : Nat) (hk : 1 ≤ k ∧ k ≤ 9) (hc : c = k) (h4 : x % 4 = 0) (hl : x + csz k ≤ lsize t.a t.s) (hkd : KdOn t x (csz k) kd)
    (hP : Blk w G5 113 (prC q.m i z c l f n p)) (hG : Blk w G 51 #[v]) (hO : Rw w base v L) (hL : L.length ≤ 1024) (hb : base ≤ w.heap.size) (hGb : G < base) :
    Calls Tryz.prog 64 #[.int .i64 x, .pointer (some ⟨G5, 0, none⟩), .pointer (some ⟨G, 0, none⟩)] w fun e w' => e = .returned (.tuple #[]) ∧ ∃ v', Blk w' G 51 #[v'] ∧ Rw w' base v' (if kd = 5 then L ++ [x] else L) ∧ Fr (G :: ownS v) w w' := by
  have hpl := plive h.m i z c l f n p k x kd hk hc h4 hl hkd
  have HP := Lib.hid hP
  have HG := Lib.hid hG
  have HO := Lib.hid hO
  have hvG : G ∉ ownS v := fun hm => by
    have := (hO.lt G (ownS_mem hm)).1
    omega
  clear hG hO h hP
  unfold prC at HP hpl
  by_cases h5 : kd = 5
  · have b1 : ((kd : Int) == 5) = true := by simp [h5]
    rw [b1] at hpl
    rw [if_pos h5]
    (have d0 := HP.out.cell 0; have z0 := HP.out.frozen 0; have d1 := HP.out.cell 1; have z1 := HP.out.frozen 1; have d2 := HP.out.cell 2; have z2 := HP.out.frozen 2; have d3 := HP.out.cell 3; have z3 := HP.out.frozen 3; have d4 := HP.out.cell 4; have z4 := HP.out.frozen 4; have d5 := HP.out.cell 5; have z5 := HP.out.frozen 5; have d6 := HP.out.cell 6; have z6 := HP.out.frozen 6; have d7 := HP.out.cell 7; have z7 := HP.out.frozen 7; simp at d0 d1 d2 d3 d4 d5 d6 d7)
    clear hkd h5 b1 HP hk hc
    go_enter Tryz.func64, Tryz.ntmps64
    go_wp2_with fail
    with_reducible refine hpl.mono ?_
    rintro e w1 ⟨rfl, f1⟩
    have hG1 := HG.out.fr f1 (by simp)
    have c0 := hG1.cell 0
    simp at c0
    have HO1 := Lib.hid (HO.out.fr0 f1)
    have HG2 := Lib.hid hG1
    have hb1 : base ≤ w1.heap.size := Nat.le_trans hb f1.size
    have F1 := Lib.hid f1
    clear d0 z0 d1 z1 d2 z2 d3 z3 d4 z4 d5 z5 d6 z6 d7 z7
    clear hG1 f1 HO HG hpl
    go_wp2_with (at_builtin; refine wpList_append2 rfl _ _ rfl rfl base v L rfl x w1 rfl HO1.out rfl (by omega) hb1 ?_; intro g1 cap1 W1 hO1 hF1 hob1; have hG1 := HG2.out.fr hF1 hvG; have d0 := hG1.cell 0; have z0 := hG1.frozen 0; simp at d0)
    have hO2 : Rw (W1.setCell ⟨G, 0, none⟩ (.slice (some ⟨g1, 0, none⟩) (L.length + 1) cap1)) base (.slice (some ⟨g1, 0, none⟩) (L.length + 1) cap1) (L ++ [x]) := own_set hO1 hG1 (by decide) 0 _
    have hB2 := hG1.set 0 (.slice (some ⟨g1, 0, none⟩) (L.length + 1) cap1)
    simp at hB2
    have f2 : Fr (G :: ownS v) w (W1.setCell ⟨G, 0, none⟩ (.slice (some ⟨g1, 0, none⟩) (L.length + 1) cap1)) := ((F1.out.nil (S := G :: ownS v)).trans (hF1.mono (S' := G :: ownS v) (fun k hk => .inl (List.mem_cons_of_mem _ hk)))).setCell (.inl (by simp)) _
    clear d0 z0
    go_end0
    exact ⟨rfl, _, hB2, hO2, f2⟩
  · have b1 : ((kd : Int) == 5) = false := by simp; omega
    rw [b1] at hpl
    rw [if_neg h5]
    (have d0 := HP.out.cell 0; have z0 := HP.out.frozen 0; have d1 := HP.out.cell 1; have z1 := HP.out.frozen 1; have d2 := HP.out.cell 2; have z2 := HP.out.frozen 2; have d3 := HP.out.cell 3; have z3 := HP.out.frozen 3; have d4 := HP.out.cell 4; have z4 := HP.out.frozen 4; have d5 := HP.out.cell 5; have z5 := HP.out.frozen 5; have d6 := HP.out.cell 6; have z6 := HP.out.frozen 6; have d7 := HP.out.cell 7; have z7 := HP.out.frozen 7; simp at d0 d1 d2 d3 d4 d5 d6 d7)
    clear hkd h5 b1 HP hk hc
    go_enter Tryz.func64, Tryz.ntmps64
    go_wp2_with fail
    with_reducible refine hpl.mono ?_
    rintro e w1 ⟨rfl, f1⟩
    have F1 := Lib.hid f1
    clear f1
    clear d0 z0 d1 z1 d2 z2 d3 z3 d4 z4 d5 z5 d6 z6 d7 z7
    go_wp2_with fail
    go_end0
    exact ⟨rfl, _, HG.out.fr F1.out (by simp), HO.out.fr0 F1.out, F1.out.nil⟩
end
end Go.Proofs.YtgoogihfggndpaaGreatDoor

/- Package slab: Live, Room; the memory's runs. -/
namespace Go.Proofs.YtgoogihfggndpaaGreatDoor
set_option linter.unusedVariables false
set_option linter.unusedSimpArgs false
open Go.RowKit

section
variable {w : World} {q : MH} {t : TM} {S : SS} {B : Nat}
set_option maxRecDepth 100000 in
set_option maxHeartbeats 2000000 in
theorem slive (h : IsH w q t) (hs : SlI t S) (i : Nat) (hi : i < t.a) : Calls Tryz.prog 20 #[.pointer (some ⟨q.m, 0, none⟩), .int .i64 i] w fun e w' => ∃ v, e = .returned v ∧ Rw w' w.heap.size v (S.lv i) ∧ IsH w' q t ∧ Fr q.blocks w w' := by
  have hof := hsof h i hi
  have h1 := hs.each i hi
  obtain ⟨s1, s2, s3, s4, s5⟩ := sla_ok h.ok i hi
  have hok := h.ok
  have hlt := h.m.lt
  have HI := Lib.hid (fun (W0 W : World) (G5 G : Nat) (h0 : IsH W0 q t) (hG5 : Blk W0 G5 113 (prC q.m i (sla t i) (t.hd i 0) (t.hd i 1) (t.hd i 2) (t.hd i 3) (t.hd i 4))) (hG : Blk W0 G 51 #[.slice none 0 0]) (hg : 6 ≤ G) (hgq : G ∉ q.blocks) (hne : G5 ≠ G) => (show Calls Tryz.prog 63 #[.agg (prC q.m i (sla t i) (t.hd i 0) (t.hd i 1) (t.hd i 2) (t.hd i 3) (t.hd i 4)), .func (.func 64) #[] #[.pointer (some ⟨G5, 0, none⟩), .pointer (some ⟨G, 0, none⟩)]] W0 (fun e w' => e = .returned (.tuple #[]) ∧ ∃ v, Blk w' G 51 #[v] ∧ Rw w' (W0.heap.size + 1) v (S.lv i) ∧ IsH w' q t ∧ Fr [G] W0 w') from by
    have hcl : t.hd i 0 = S.cls i := h1.h0
    have hEnter : ∀ (args : Array Value) (w : World), (callFunc 64 args).run Tryz.prog w = .ok (.enter 64 args) w := run_enterF Tryz.func64 rfl rfl
    have hG5l := hG5.lt
    have hGl := hG.lt
    have hbx : Blk (W0.alloc (.cells (prC q.m i (sla t i) (t.hd i 0) (t.hd i 1) (t.hd i 2) (t.hd i 3) (t.hd i 4)) 113)) W0.heap.size 113 (prC q.m i (sla t i) (t.hd i 0) (t.hd i 1) (t.hd i 2) (t.hd i 3) (t.hd i 4)) := Blk.new W0 _ _
    have hf0 : Fr [] W0 (W0.alloc (.cells (prC q.m i (sla t i) (t.hd i 0) (t.hd i 1) (t.hd i 2) (t.hd i 3) (t.hd i 4)) 113)) := (Fr.refl [] W0).alloc _
    have hp := peach9 (w := W0) q.m i (sla t i) (t.hd i 0) (t.hd i 1) (t.hd i 2) (t.hd i 3) (t.hd i 4) (S.cls i) (sla t i) h1.c9 (by rw [hcl]) rfl (by omega) 64 #[.pointer (some ⟨G5, 0, none⟩), .pointer (some ⟨G, 0, none⟩)] hEnter
      (fun j W => (∃ v, Blk W G 51 #[v] ∧ Rw W (W0.heap.size + 1) v (lvP t i (S.cls i) (S.lv i) j)) ∧ Fr [G] W0 W ∧ Blk W W0.heap.size 113 (prC q.m i (sla t i) (t.hd i 0) (t.hd i 1) (t.hd i 2) (t.hd i 3) (t.hd i 4)))
      ⟨⟨_, hG.fr hf0 (by simp), Rw.nil _ _⟩, hf0.nil, hbx⟩
      (fun j W hj => ⟨(h0.fr1 hj.2.1 hgq hg).m.tab, hj.2.2⟩)
      (fun j W hj ⟨⟨v, k1, k2⟩, k3, k4⟩ => by
        have h0' : S.cls i ≠ 0 := fun e => by rw [e] at hj; simp [nbk, csz] at hj
        obtain ⟨a1, a2, a3⟩ := adr_ok (t := t) hok hi ⟨(by omega : 1 ≤ S.cls i), h1.c9⟩ hj
        obtain ⟨c1, c2, c3, c4, c5, c6, c7⟩ := csz_tab (S.cls i) (by omega) h1.c9
        have hkd : KdOn t (adr t i (S.cls i) j) (csz (S.cls i)) (if adr t i (S.cls i) j ∈ S.lv i then 5 else 6) := by
          rcases h1.mem' h0' hj with hm | hm
          · have hn : adr t i (S.cls i) j ∉ S.lv i := fun hl => by
              have := h1.nodup h0'
              rw [List.nodup_append] at this
              exact this.2.2 _ hm _ hl rfl
            rw [if_neg hn]
            exact h1.free.kd _ hm
          · rw [if_pos hm]
            exact h1.live _ hm
        have hsz := k4.lt
        have hlen := lvP_len t i (S.cls i) (S.lv i) j
        refine (slive1 (h0.fr1 k3 hgq hg) G5 G (W0.heap.size + 1) v (lvP t i (S.cls i) (S.lv i) j) i (sla t i) (t.hd i 0) (t.hd i 1) (t.hd i 2) (t.hd i 3) (t.hd i 4) (S.cls i) (adr t i (S.cls i) j) _ ⟨by omega, h1.c9⟩ (by rw [hcl]) (by omega) (by omega) hkd (hG5.fr k3 (by simp; exact hne)) k1 k2 (by omega) (by omega) (by omega)).mono fun e w' ⟨he, v', j1, j2, j3⟩ => ⟨he, ⟨v', j1, ?_⟩, ?_, ?_⟩
        · rw [lvP_succ]
          by_cases hm : adr t i (S.cls i) j ∈ S.lv i
          · rw [if_pos hm, if_pos rfl] at j2
            rw [if_pos hm]
            exact j2
          · rw [if_neg hm, if_neg (by decide)] at j2
            rw [if_neg hm]
            exact j2
        · refine k3.step j3 (fun k hk => ?_)
          rcases List.mem_cons.1 hk with rfl | hk
          · exact .inl (by simp)
          · have := (k2.lt k (ownS_mem hk)).1
            exact .inr (by omega)
        · refine k4.fr j3 (fun hm => ?_)
          rcases List.mem_cons.1 hm with e | hk
          · omega
          · have := (k2.lt _ (ownS_mem hk)).1
            omega)
    refine hp.mono fun e w' ⟨he, ⟨v, k1, k2⟩, k3, k4⟩ => ⟨he, v, k1, ?_, h0.fr1 k3 hgq hg, k3⟩
    have e1 : lvP t i (S.cls i) (S.lv i) (nbk (S.cls i)) = S.lv i := by
      by_cases h0' : S.cls i = 0
      · rw [(h1.z h0').2.1, h0']
        rfl
      · exact lvP_all hs hi h0'
    rw [e1] at k2
    exact k2))
  have hgx : 6 ≤ w.heap.size := by have := h.m.tab.size; have := h.tabs.size; omega
  generalize t.hd i 0 = c0 at *
  generalize t.hd i 1 = c1 at *
  generalize t.hd i 2 = c2 at *
  generalize t.hd i 3 = c3 at *
  generalize t.hd i 4 = c4 at *
  generalize sla t i = sl at *
  have HLT := Lib.hid hlt
  clear h h1 s1 s2 s3 s4 s5 hok hs hlt
  unfold prC at HI hof
  generalize q.m = m at *
  go_enter Tryz.func20, Tryz.ntmps20
  go_wp2_with fail
  with_reducible refine hof.mono ?_
  rintro e w1 ⟨rfl, h1, f1⟩
  have H1 := Lib.hid h1
  have F1 := Lib.hid f1
  have hs1 := f1.size
  clear hof f1
  go_wp2_with fail
  have f2 : Fr [] w1 ((w1.alloc (.cells #[.pointer (some ⟨m, 0, none⟩), .int .i64 i, .int .i64 sl, .int .i64 c0, .int .i64 c1, .int .u32 c2, .int .i64 c3, .int .i64 c4] 113)).alloc (.cells #[.slice none 0 0] 51)) := ((Fr.refl [] w1).alloc _).alloc _
  have hea := HI.out _ w1 w1.heap.size (w1.heap.size + 1) (H1.out.fr0 f2) ((Blk.new w1 113 _).alloc _) (Blk.new2 w1 _ 51 _) (by omega) (fun hm => by have := H1.out.m.lt _ hm; omega) (by omega)
  have hsz2 : ((w1.alloc (.cells #[.pointer (some ⟨m, 0, none⟩), .int .i64 i, .int .i64 sl, .int .i64 c0, .int .i64 c1, .int .u32 c2, .int .i64 c3, .int .i64 c4] 113)).alloc (.cells #[.slice none 0 0] 51)).heap.size = w1.heap.size + 2 := by simp
  with_reducible refine hea.mono ?_
  rintro e w3 ⟨rfl, v, k1, k2, k3, k4⟩
  have c5 := k1.cell 0
  simp at c5
  have HK := Lib.hid (show Rw w3 w.heap.size v (S.lv i) from k2.lo (by omega))
  have HH := Lib.hid k3
  have HF := Lib.hid (show Fr q.blocks w w3 from (F1.out.trans f2.nil).step k4 (fun k hk => by simp at hk; subst hk; exact .inr (by omega)))
  clear k1 k2 k3 k4 hea f2 HI
  go_wp2_with fail
  go_ret
  exact ⟨_, rfl, HK.out, HH.out, HF.out⟩
theorem mruns (h : IsT w q t) : Calls Tryz.prog 15 #[.pointer (some ⟨q.m, 0, none⟩)] w fun e w' => ∃ v, e = .returned v ∧ OwnR w' w.heap.size v ((runs t.kinds).map sc4) ∧ Fr [] w w' := by
  have hn := h.m.none
  have c0 := h.m.st.cell 0
  obtain ⟨lk, hw⟩ := h.m.wt
  have hks : t.ms.ks = t.kinds := rfl
  rw [hks] at hw
  have hf := Lib.hid (fun W hW => (callsIn_wide.1 (runs_in 4 (by omega) W q.pw q.bw t.kinds lk t.ms.ft hW)))
  simp at c0
  have HW := Lib.hid hw
  have hl := hw.st.lt
  have HR := Lib.hid (show ∀ W v base, W.ownsRow base 84 3 v (runs t.kinds).length (runCells (runs t.kinds)) → OwnR W base v ((runs t.kinds).map sc4) from fun W v base ho => by
    unfold OwnR
    rw [List.length_map, rCells_sc4]
    exact ho)
  have hcf : ∀ W, IsW W q.pw q.bw t.kinds lk t.ms.ft → Calls Tryz.prog 56 #[.agg #[.pointer (some ⟨q.pw, 0, none⟩)]] W fun e w' => ∃ v, e = .returned v ∧ OwnR w' W.heap.size v ((runs t.kinds).map sc4) ∧ Fr [] W w' := fun W hW => by
    have hfa := hf.out _ (hW.fr (S := []) ((Fr.refl _ _).alloc (.cells #[.pointer (some ⟨q.pw, 0, none⟩)] 99)) (by simp) (by simp))
    have HRW := Lib.hid (fun (w' : World) (v : Value) (ho : w'.ownsRow (W.alloc (.cells #[.pointer (some ⟨q.pw, 0, none⟩)] 99)).heap.size 84 3 v (runs t.kinds).length (runCells (runs t.kinds))) => ownR_base (base := W.heap.size) (by simp) (HR.out _ _ _ ho))
    clear hf hW HW
    go_enter Tryz.func56, Tryz.ntmps56
    go_wp2_with fail
    with_reducible refine hfa.mono ?_
    rintro e w' ⟨v, rfl, ho, f⟩
    have HO := Lib.hid (HRW.out _ _ ho)
    have HF := Lib.hid (((Fr.refl [] W).alloc (.cells #[.pointer (some ⟨q.pw, 0, none⟩)] 99)).trans f)
    clear ho f HRW hfa
    go_wp2_with fail
    go_ret
    exact ⟨_, rfl, HO.out, HF.out⟩
  have hcw := hcf w hw
  generalize t.kinds = ks at *
  clear h hw hf hks
  go_enter Tryz.func15, Tryz.ntmps15
  go_wp2_with fail
  with_reducible refine hn.mono ?_
  rintro e w' ⟨rfl, rfl⟩
  go_wp2_with fail
  with_reducible refine hcw.mono ?_
  rintro e w1 ⟨v, rfl, ho, f⟩
  have HO := Lib.hid ho
  clear ho
  go_wp2_with fail
  go_ret
  exact ⟨_, rfl, HO.out, f⟩
end
end Go.Proofs.YtgoogihfggndpaaGreatDoor
