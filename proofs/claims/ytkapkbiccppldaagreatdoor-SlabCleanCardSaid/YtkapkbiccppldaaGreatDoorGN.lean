/- Several texts in one. -/
import Derived.Test.YtkapkbiccppldaaGreatDoorRows
import Derived.Test.YtkapkbiccppldaaGreatDoorGA
import Derived.WalkKit
import Derived.ProofKit
import Derived.OpenShut
import Derived.ShutString
import Derived.ChangeOld
import Derived.Below
import Derived.Test.YtkapkbiccppldaaGreatDoorGI
import Derived.Test.YtkapkbiccppldaaGreatDoorGJ
import Derived.Test.YtkapkbiccppldaaGreatDoorGK
import Derived.Test.YtkapkbiccppldaaGreatDoorGD
import Derived.Test.YtkapkbiccppldaaGreatDoorGM
import Derived.Laws.StructEq
/- Opening the acts of layer 15's statements. -/
namespace Go.Proofs.YtkapkbiccppldaaGreatDoor
open Go.ChangeShapes Go.WideShapes Go.ChangeAt Go.RowKit
set_option linter.unusedVariables false
set_option linter.unusedSimpArgs false

/-- An act. -/
structure A15 where
  k : Int
  n : Int
def A15.cells (d : A15) : Array Value := #[.int .i64 d.k, .int .i64 d.n]
structure A15.Ok (d : A15) : Prop where
  k : -9223372036854775808 ≤ d.k ∧ d.k ≤ 9223372036854775807
  n : -9223372036854775808 ≤ d.n ∧ d.n ≤ 9223372036854775807
/-- An act that lies from a place on. -/
structure Row15 (w : World) (b o : Nat) (d : A15) : Prop where
  c0 : w.cell? ⟨b, o, none⟩ = some (.int .i64 d.k)
  c1 : w.cell? ⟨b, o + 1, none⟩ = some (.int .i64 d.n)
structure ActA15 (w : World) (a : Option Addr) (c : Nat) (l : List A15) : Prop where
  row : 0 < l.length → ∃ b off, a = some ⟨b, off, none⟩ ∧ b < w.heap.size ∧ ∀ i (h : i < l.length), Row15 w b (off + i * 2) l[i]
  each : ∀ d ∈ l, d.Ok
  len : l.length ≤ 9223372036854775807
theorem ActA15.fr {w w' : World} {a : Option Addr} {c : Nat} {l : List A15} {S : List Nat} (h : ActA15 w a c l) (hf : Fr S w w') (hS : ∀ k ∈ S, w.heap.size ≤ k) : ActA15 w' a c l := by
  refine ⟨fun h0 => ?_, h.each, h.len⟩
  obtain ⟨b, off, ha, hb, hr⟩ := h.row h0
  have hn : b ∉ S := fun hm => by have := hS b hm; omega
  refine ⟨b, off, ha, Nat.lt_of_lt_of_le hb hf.size, fun i hi => ?_⟩
  have r := hr i hi
  exact ⟨(hf.cell (p := ⟨b, off + i * 2, none⟩) hb hn).trans r.c0, (hf.cell (p := ⟨b, off + i * 2 + 1, none⟩) hb hn).trans r.c1⟩
set_option maxRecDepth 100000 in
theorem open_acts15 {H : Type} {enc : TypeId × Value → H} {w : World} {base b0 : Nat} {spare : Nat → Bool} {held : Bool} {r : Reach} {v : Value} {d : DataW H} {p : List MemPlace}
    (hv : Value.okWide Tryz.prog w r b0 22 v) (h : DataW.Trod enc Tryz.prog w base spare held 22 v d p) : ∃ a c l, v = .slice a l.length c ∧ ActA15 w a c l := by
  obtain ⟨a0, len, cap, rfl⟩ := okWide_slice Tryz.underlying22 hv
  obtain ⟨fuel, hf⟩ := h
  rcases open_slice_fields Tryz.underlying22 Tryz.underlying33 (by kernel_rfl) (by kernel_rfl) hf with hcs | ⟨ad, len', cap', hcs, hl, hm, hi⟩
  · simp [Value.cells] at hcs
    obtain ⟨rfl, rfl, rfl⟩ := hcs
    exact ⟨none, 0, [], rfl, fun h => by simp at h, fun d hd => by simp at hd, by simp⟩
  · simp [Value.cells] at hcs
    obtain ⟨rfl, rfl, rfl⟩ := hcs
    by_cases h0 : len = 0
    · subst h0
      exact ⟨_, _, [], rfl, fun h => by simp at h, fun d hd => by simp at hd, by simp⟩
    obtain ⟨b, off, spot⟩ := ad
    have hspot : spot = none := by
      obtain ⟨n, hf⟩ := hi 0 (by omega)
      obtain ⟨v0, y0, c0, t0⟩ := hf 0 _ rfl
      simpa [Addr.add] using World.cell?_spot c0
    subst hspot
    have hadd : ∀ n, (⟨b, off, none⟩ : Addr).add n = ⟨b, off + n, none⟩ := fun n => by unfold Addr.add; split <;> simp_all
    have hval : ∀ i, i < len → ∃ q : A15, Row15 w b (off + i * 2) q ∧ q.Ok := by
      intro i him
      obtain ⟨n, hf⟩ := hi i him
      obtain ⟨v0, y0, c0, t0⟩ := hf 0 _ rfl
      obtain ⟨v1, y1, c1, t1⟩ := hf 1 _ rfl
      obtain ⟨q0, g0, _, w0⟩ := DataW.trod_int Tryz.underlying3 t0
      obtain ⟨q1, g1, _, w1⟩ := DataW.trod_int Tryz.underlying3 t1
      simp at g0 g1
      subst g0 g1
      have z0 := lit_i64 w0
      have z1 := lit_i64 w1
      rw [hadd] at c0 c1
      exact ⟨⟨q0, q1⟩, ⟨c0, c1⟩, ⟨z0, z1⟩⟩
    obtain ⟨l, hl2, hp⟩ := list_of _ len hval
    refine ⟨_, _, l, by rw [hl2], fun _ => ⟨b, off, rfl, ?_, fun i h => (hp i h).1⟩, fun d hd => ?_, by rw [hl2]; unfold maxLen at hm; omega⟩
    · obtain ⟨q, hq, _⟩ := hval 0 (by omega)
      exact cell_lt hq.c0
    · obtain ⟨j, hj, rfl⟩ := List.mem_iff_getElem.1 hd
      exact (hp j hj).2
end Go.Proofs.YtkapkbiccppldaaGreatDoor

/- Runs of a memory with slabs: pieces that tile it, each joined to the last one if that is of its kind. Plain words. -/
namespace Go.Proofs.YtkapkbiccppldaaGreatDoor
set_option linter.unusedVariables false
set_option linter.unusedSimpArgs false
open Go.RowKit

/-- Runs with one more. -/
def withR (l : List Rn) (r : Rn) : List Rn := match l.getLast? with | some x => if x.2.2 = r.2.2 then l.dropLast ++ [(x.1, x.2.1 + r.2.1, x.2.2)] else l ++ [r] | none => [r]
theorem withR_nil (r : Rn) : withR [] r = [r] := rfl
theorem withR_snoc (l : List Rn) (x r : Rn) : withR (l ++ [x]) r = if x.2.2 = r.2.2 then l ++ [(x.1, x.2.1 + r.2.1, x.2.2)] else l ++ [x] ++ [r] := by
  unfold withR
  rw [List.getLast?_concat]
  simp only [List.dropLast_concat]
def sc4 (r : Rn) : Rn := (4 * r.1, 4 * r.2.1, r.2.2)
/-- A piece of a whole: where it begins, that it is of one kind. -/
structure Pc (K : List Nat) (x : Nat) (r : Rn) : Prop where
  at_ : r.1 = 4 * x
  len : ∃ m, 0 < m ∧ r.2.1 = 4 * m ∧ x + m ≤ K.length ∧ ∀ g, x ≤ g → g < x + m → K[g]?.getD 0 = r.2.2
/-- Runs as far as a place. -/
def Upto (K : List Nat) (x : Nat) (l : List Rn) : Prop := (x = 0 ∧ l = []) ∨ ∃ G f, f < x ∧ x ≤ K.length ∧ x ≤ runEnd K f ∧ l = (G ++ [(f, x - f, K[f]?.getD 0)]).map sc4 ∧ runs K = G ++ runsFrom K f
theorem runEnd_ge {K : List Nat} {f y k : Nat} (hf : f < y) (hy : y ≤ K.length) (h : ∀ g, f ≤ g → g < y → K[g]?.getD 0 = k) : y ≤ runEnd K f := by
  rcases Nat.lt_or_ge (runEnd K f) y with hl | hl
  · have h1 := runEnd_stop K f (by omega)
    have h2 := runEnd_lt K f (by omega)
    exact absurd ((h _ (by omega) hl).trans (h f (by omega) hf).symm) h1
  · exact hl
theorem Upto.step {K : List Nat} {x : Nat} {l : List Rn} (h : Upto K x l) {r : Rn} (hp : Pc K x r) : Upto K (x + r.2.1 / 4) (withR l r) := by
  obtain ⟨m, m0, em, hm, hk⟩ := hp.len
  have ea := hp.at_
  obtain ⟨ra, rl, rk⟩ := r
  simp only at em ea hk ⊢
  have e4 : rl / 4 = m := by omega
  rw [e4]
  refine .inr ?_
  rcases h with ⟨rfl, rfl⟩ | ⟨G, f, h1, h2, h3, rfl, h5⟩
  · have hk0 := hk 0 (by omega) (by omega)
    refine ⟨[], 0, by omega, hm, runEnd_ge (by omega) hm (fun g _ hg => hk g (by omega) hg), ?_, by rw [List.nil_append, runs_from]⟩
    rw [withR_nil, hk0, List.nil_append]
    simp [sc4]
    omega
  · have hkf : ∀ g, f ≤ g → g < x → K[g]?.getD 0 = K[f]?.getD 0 := fun g g1 g2 => runEnd_in K f g g1 (by omega)
    rw [List.map_append, List.map_cons, List.map_nil, withR_snoc]
    by_cases hs : K[f]?.getD 0 = rk
    · rw [if_pos (show (sc4 (f, x - f, K[f]?.getD 0)).2.2 = rk from hs)]
      refine ⟨G, f, by omega, hm, runEnd_ge (by omega) hm (k := rk) (fun g g1 g2 => ?_), ?_, h5⟩
      · rcases Nat.lt_or_ge g x with hl | hl
        · rw [hkf g g1 hl, hs]
        · exact hk g hl g2
      · rw [List.map_append]
        simp [sc4]
        omega
    · rw [if_neg (show ¬ (sc4 (f, x - f, K[f]?.getD 0)).2.2 = rk from hs)]
      have hre : runEnd K f = x := by
        rcases Nat.lt_or_ge x (runEnd K f) with hl | hl
        · exact absurd ((runEnd_in K f x (by omega) hl).symm.trans (hk x (by omega) (by omega))) hs
        · omega
      refine ⟨G ++ [(f, x - f, K[f]?.getD 0)], x, by omega, hm, runEnd_ge (by omega) hm (fun g g1 g2 => hk g g1 g2), ?_, ?_⟩
      · rw [hk x (by omega) (by omega), List.map_append (l₂ := [_]), List.map_append]
        simp [sc4]
        omega
      · rw [h5, runsFrom_step K f (by omega), hre, List.append_assoc]
        rfl
theorem Upto.done {K : List Nat} {l : List Rn} (h : Upto K K.length l) : l = (runs K).map sc4 := by
  rcases h with ⟨h0, rfl⟩ | ⟨G, f, h1, h2, h3, rfl, h5⟩
  · have : K = [] := List.eq_nil_of_length_eq_zero h0
    rw [this]; rfl
  · have he : runEnd K f = K.length := Nat.le_antisymm (runEnd_le K f (by omega)) h3
    rw [h5, runsFrom_step K f (by omega), he, runsFrom_done K K.length (Nat.le_refl _)]
/-- Pieces one after the other. -/
def Pcs (K : List Nat) : Nat → List Rn → Nat → Prop
  | x, [], y => x = y
  | x, r :: l, y => Pc K x r ∧ Pcs K (x + r.2.1 / 4) l y
theorem Upto.steps {K : List Nat} : ∀ {p : List Rn} {x y : Nat} {l : List Rn}, Upto K x l → Pcs K x p y → Upto K y (p.foldl withR l)
  | [], x, y, l, h, hp => by obtain rfl : x = y := hp; exact h
  | r :: p, x, y, l, h, hp => Upto.steps (p := p) (h.step hp.1) hp.2
theorem Pcs.app {K : List Nat} : ∀ {p p' : List Rn} {x y z : Nat}, Pcs K x p y → Pcs K y p' z → Pcs K x (p ++ p') z
  | [], _, x, y, z, h, h' => by obtain rfl : x = y := h; exact h'
  | _ :: p, _, _, _, _, h, h' => ⟨h.1, Pcs.app (p := p) h.2 h'⟩
theorem pcs_range {K : List Nat} {s x : Nat} (f : Nat → Rn) (h4 : s % 4 = 0) : ∀ n, (∀ k, k < n → (f k).2.1 = s ∧ Pc K (x + s / 4 * k) (f k)) → Pcs K x ((List.range n).map f) (x + s / 4 * n)
  | 0, _ => by show x = x + s / 4 * 0; omega
  | n + 1, h => by
    rw [List.range_succ, List.map_append]
    refine Pcs.app (pcs_range f h4 n (fun k hk => h k (by omega))) ?_
    obtain ⟨h1, h2⟩ := h n (by omega)
    refine ⟨h2, ?_⟩
    show x + s / 4 * n + (f n).2.1 / 4 = x + s / 4 * (n + 1)
    rw [h1, Nat.mul_succ]
    omega
/-- A slab's pieces. -/
def blkR (b : Nat) (S : SS) (i k : Nat) : Rn := (adrB b i (S.cls i) k, csz (S.cls i), if adrB b i (S.cls i) k ∈ S.lv i then 5 else 6)
def padR (b : Nat) (S : SS) (i : Nat) : List Rn := if 0 < cpad (S.cls i) then [(b + 1024 * i + 1024 - cpad (S.cls i), cpad (S.cls i), 8)] else []
def slabR (b : Nat) (S : SS) (i : Nat) : List Rn := if S.cls i = 0 then [(b + 1024 * i, 1024, 7)] else (List.range (nbk (S.cls i))).map (blkR b S i) ++ padR b S i
def allR (b : Nat) (S : SS) : Nat → List Rn
  | 0 => []
  | n + 1 => allR b S n ++ slabR b S n
theorem kdp {t : TM} (hok : t.Ok) {x n k : Nat} (h : KdOn t x n k) (h4 : x % 4 = 0) (hn : n % 4 = 0) (n0 : 0 < n) (hl : x + n ≤ lsize t.a t.s) : Pc t.kinds (x / 4) (x, n, k) := by
  have := lsize_4 t.a t.s
  refine ⟨by simp only; omega, n / 4, by omega, by simp only; omega, by rw [TM.kinds_len]; omega, fun g g1 g2 => ?_⟩
  rw [TM.kinds_get _ _ (by omega)]
  exact h g g1 (by omega)
theorem slab_pcs {t : TM} {S : SS} (hok : t.Ok) (hs : SlI t S) {i : Nat} (hi : i < t.a) : Pcs t.kinds (sla t i / 4) (slabR (lbase t.a t.s) S i) (sla t (i + 1) / 4) := by
  have h1 := hs.each i hi
  obtain ⟨s1, s2, s3, s4, s5⟩ := sla_ok hok i hi
  have es : sla t (i + 1) = sla t i + 1024 := by unfold sla; omega
  unfold slabR
  by_cases h0 : S.cls i = 0
  · obtain ⟨_, _, hk, _⟩ := h1.z h0
    rw [if_pos h0]
    refine ⟨kdp hok hk (by omega) (by decide) (by decide) s2, ?_⟩
    show sla t i / 4 + 1024 / 4 = _
    omega
  · have h9 := h1.c9
    obtain ⟨z1, z2, z3, z4, z5, z6, z7⟩ := csz_tab (S.cls i) (by omega) h9
    rw [if_neg h0]
    refine Pcs.app (y := sla t i / 4 + csz (S.cls i) / 4 * nbk (S.cls i)) (pcs_range _ (by omega) _ (fun k hk => ⟨rfl, ?_⟩)) ?_
    · have ha : adrB (lbase t.a t.s) i (S.cls i) k = adr t i (S.cls i) k := rfl
      obtain ⟨a1, a2, a3⟩ := adr_ok (t := t) hok hi ⟨by omega, h9⟩ hk
      have hle : sla t i + csz (S.cls i) * nbk (S.cls i) ≤ sla t i + 1024 := by omega
      have ex : sla t i / 4 + csz (S.cls i) / 4 * k = adr t i (S.cls i) k / 4 := by
        unfold adr
        obtain ⟨d, hd⟩ : ∃ d, csz (S.cls i) = 4 * d := ⟨csz (S.cls i) / 4, by omega⟩
        rw [hd, Nat.mul_assoc, Nat.mul_div_cancel_left _ (by decide : 0 < 4)]
        omega
      rw [ex]
      unfold blkR
      rw [ha]
      rcases h1.mem' h0 hk with hm | hm
      · have hn : adr t i (S.cls i) k ∉ S.lv i := fun hl => by
          have := h1.nodup h0
          rw [List.nodup_append] at this
          exact this.2.2 _ hm _ hl rfl
        rw [if_neg hn]
        exact kdp hok (h1.free.kd _ hm) (by omega) (by omega) (by omega) (by omega)
      · rw [if_pos hm]
        exact kdp hok (h1.live _ hm) (by omega) (by omega) (by omega) (by omega)
    · have ex : sla t i / 4 + csz (S.cls i) / 4 * nbk (S.cls i) = (sla t i + csz (S.cls i) * nbk (S.cls i)) / 4 := by
        obtain ⟨d, hd⟩ : ∃ d, csz (S.cls i) = 4 * d := ⟨csz (S.cls i) / 4, by omega⟩
        rw [hd, Nat.mul_assoc, Nat.mul_div_cancel_left _ (by decide : 0 < 4)]
        omega
      have m4 : (csz (S.cls i) * nbk (S.cls i)) % 4 = 0 := by
        obtain ⟨d, hd⟩ : ∃ d, csz (S.cls i) = 4 * d := ⟨csz (S.cls i) / 4, by omega⟩
        rw [hd, Nat.mul_assoc]; omega
      rw [ex]
      unfold padR
      by_cases hp : 0 < cpad (S.cls i)
      · rw [if_pos hp]
        have e1 : lbase t.a t.s + 1024 * i + 1024 - cpad (S.cls i) = sla t i + csz (S.cls i) * nbk (S.cls i) := by unfold sla; omega
        rw [e1]
        refine ⟨kdp hok (h1.pk h0) (by omega) (by omega) hp (by omega), ?_⟩
        show (sla t i + csz (S.cls i) * nbk (S.cls i)) / 4 + cpad (S.cls i) / 4 = _
        omega
      · rw [if_neg hp]
        show (sla t i + csz (S.cls i) * nbk (S.cls i)) / 4 = _
        omega
theorem all_pcs {t : TM} {S : SS} (hok : t.Ok) (hs : SlI t S) : ∀ n, n ≤ t.a → Pcs t.kinds (lbase t.a t.s / 4) (allR (lbase t.a t.s) S n) (sla t n / 4)
  | 0, _ => by show lbase t.a t.s / 4 = sla t 0 / 4; unfold sla; rfl
  | n + 1, h => Pcs.app (all_pcs hok hs n (by omega)) (slab_pcs hok hs (by omega))
theorem base_pcs {t : TM} (hok : t.Ok) : Pcs t.kinds 0 (rrun5 t.a t.s) (lbase t.a t.s / 4) := by
  have hc := hok.cfg
  obtain ⟨z1, z2, z3, z4, z5, z6, z7⟩ := cfg_sizes hc
  obtain ⟨c1, c2, c3, c4, c5⟩ := hc
  have hk : ∀ x n k, (∀ g, x / 4 ≤ g → g < (x + n) / 4 → kindAt t g = k) → x % 4 = 0 → n % 4 = 0 → 0 < n → x + n ≤ lsize t.a t.s → Pc t.kinds (x / 4) (x, n, k) := fun x n k h h4 hn n0 hl => kdp hok h h4 hn n0 hl
  have e3 : Pcs t.kinds 0 (rrun4 t.a t.s) ((lslots t.a + 4 * t.s) / 4) := by
    have p1 := hk 0 8 1 (fun g g1 g2 => by unfold kindAt; rw [if_pos (by omega)]) (by decide) (by decide) (by decide) (by omega)
    have p2 := hk 8 120 2 (fun g g1 g2 => by unfold kindAt; rw [if_neg (by omega), if_pos (by omega)]) (by decide) (by decide) (by decide) (by omega)
    have p3 := hk 128 (16 * t.a) 3 (fun g g1 g2 => by unfold kindAt; rw [if_neg (by omega), if_neg (by omega), if_pos (by omega)]) (by decide) (by omega) (by omega) (by omega)
    have p4 := hk (128 + 16 * t.a) (4 * t.s) 4 (fun g g1 g2 => by unfold kindAt; rw [if_neg (by omega), if_neg (by omega), if_neg (by omega), if_pos (by omega)]) (by omega) (by omega) (by omega) (by omega)
    refine ⟨p1, p2, ?_, ?_⟩
    · exact p3
    · have e : 0 + 8 / 4 + 120 / 4 + 16 * t.a / 4 = (128 + 16 * t.a) / 4 := by omega
      show Pcs t.kinds (0 + 8 / 4 + 120 / 4 + 16 * t.a / 4) [(128 + 16 * t.a, 4 * t.s, 4)] _
      rw [e]
      refine ⟨p4, ?_⟩
      show (128 + 16 * t.a) / 4 + 4 * t.s / 4 = _
      omega
  unfold rrun5
  by_cases hp : 0 < rpad t.a t.s
  · rw [if_pos hp]
    unfold rpad at *
    refine Pcs.app e3 ⟨?_, ?_⟩
    · have := hk (128 + 16 * t.a + 4 * t.s) (lbase t.a t.s - (128 + 16 * t.a + 4 * t.s)) 8 (fun g g1 g2 => by unfold kindAt; rw [if_neg (by omega), if_neg (by omega), if_neg (by omega), if_neg (by omega), if_pos (by omega)]) (by omega) (by omega) (by omega) (by omega)
      rw [z1]
      exact this
    · show (lslots t.a + 4 * t.s) / 4 + (lbase t.a t.s - (128 + 16 * t.a + 4 * t.s)) / 4 = _
      omega
  · rw [if_neg hp]
    unfold rpad at hp
    have : lslots t.a + 4 * t.s = lbase t.a t.s := by omega
    rw [← this]
    exact e3
theorem rrun5_fold (a s : Nat) : (rrun5 a s).foldl withR [] = rrun5 a s := by
  unfold rrun5 rrun4 rrun3
  split <;> rfl
/-- The runs of a memory with slabs: as the document tells them. -/
theorem runs_slabs {t : TM} {S : SS} (hok : t.Ok) (hs : SlI t S) : (allR (lbase t.a t.s) S t.a).foldl withR (rrun5 t.a t.s) = (runs t.kinds).map sc4 := by
  refine Upto.done ?_
  have hz := cfg_sizes hok.cfg
  have e : t.kinds.length = sla t t.a / 4 := by rw [TM.kinds_len]; unfold sla; congr 1
  rw [e]
  refine Upto.steps ?_ (all_pcs hok hs t.a (Nat.le_refl _))
  rw [← rrun5_fold]
  exact Upto.steps (.inl ⟨rfl, rfl⟩) (base_pcs hok)
theorem rCells_sc4 (l : List (Nat × Nat × Nat)) : rCells (l.map sc4) = l.flatMap fun r => [.int .i64 (4 * r.1), .int .i64 (4 * r.2.1), .int .i64 r.2.2] := by
  unfold rCells sc4
  rw [List.flatMap_map]
  simp
end Go.Proofs.YtkapkbiccppldaaGreatDoor

/- The place of an act; the document's Give. -/
namespace Go.Proofs.YtkapkbiccppldaaGreatDoor
set_option linter.unusedVariables false
set_option linter.unusedSimpArgs false
open Go.RowKit

/-- Which place an act says. -/
def placeZ (k n : Int) (L : List Nat) : Int := if k = 5 ∨ L = [] then n else (L[nthZ n L.length]?.getD 0 : Nat)
set_option maxRecDepth 100000 in
set_option maxHeartbeats 2000000 in
theorem xplace (w : World) (k n : Int) (ad : Option Addr) (cap : Nat) (L : List Nat) (base : Nat) (h : RowV w base ad cap L) (hl : L.length ≤ 1048576) :
    Calls Tryz.prog 29 #[.agg #[.int .i64 k, .int .i64 n], .slice ad L.length cap] w fun e w' => e = .returned (.int .i64 (placeZ k n L)) ∧ Fr [] w w' := by
  have HB := Lib.hid (Blk.new w 33 #[.int .i64 k, .int .i64 n])
  have F1 := Lib.hid ((Fr.refl [] w).alloc (.cells #[.int .i64 k, .int .i64 n] 33))
  by_cases h5 : k = 5 ∨ L = []
  · have e : placeZ k n L = n := if_pos h5
    rw [e]
    have hc : ((k == 5) = true) ∨ ((k == 5) = false ∧ ((L.length : Int) == 0) = true ∧ (L.length == 0) = true) := by
      rcases h5 with h5 | h5
      · exact .inl (by simp [h5])
      · by_cases h6 : k = 5
        · exact .inl (by simp [h6])
        · exact .inr ⟨by simp [h6], by simp [h5], by simp [h5]⟩
    generalize L.length = m at *
    clear h e h5
    rcases hc with b1 | ⟨b1, b2, b3⟩
    · go_enter Tryz.func29, Tryz.ntmps29
      go_wp2_with fail
      go_ret
      exact ⟨rfl, F1.out⟩
    · go_enter Tryz.func29, Tryz.ntmps29
      go_wp2_with fail
      go_ret
      exact ⟨rfl, F1.out⟩
  · have h0 : 0 < L.length := by
      rcases L with _ | ⟨_, _⟩
      · simp at h5
      · simp
    have hk := nthZ_lt n L.length h0
    have e : placeZ k n L = (L[nthZ n L.length] : Nat) := by
      unfold placeZ
      rw [if_neg h5, List.getElem?_eq_getElem hk]
      rfl
    rw [e]
    obtain ⟨g, rfl, hb, hr⟩ := h h0
    have b1 : (k == 5) = false := by simp; exact fun h => h5 (.inl h)
    have b2 : ((L.length : Int) == 0) = false := beq_eq_false_iff_ne.2 (by omega)
    have b3 : (L.length == 0) = false := beq_eq_false_iff_ne.2 (by omega)
    obtain ⟨t1, t2⟩ := tmod_in n L.length h0 hl
    have t3 := nthZ_max n L.length
    have c1 := fun W (hf : Fr [] w W) => (hr.fr hf (by simp)).cell _ hk
    generalize nthZ n L.length = j at *
    generalize L[j] = y at *
    generalize L.length = m at *
    generalize hR : n.tmod m = R at *
    have hj : (j : Int) < m := by omega
    have c2 := c1 _ F1.out
    clear h h5 h0 hr c1
    go_enter Tryz.func29, Tryz.ntmps29
    go_wp2_with fail
    go_ret
    exact ⟨rfl, F1.out⟩
theorem delS_take {x : Nat} {L : List Nat} {k y : Nat} (h : L[k]? = some y) : delS x (L.take (k + 1)) = if y = x then delS x (L.take k) else delS x (L.take k) ++ [y] := by
  rw [take_snoc h]
  unfold delS
  rw [List.filter_append]
  by_cases e : y = x
  · rw [if_pos e]; simp [e]
  · rw [if_neg e]; simp [e]
theorem delS_le (x : Nat) (L : List Nat) : (delS x L).length ≤ L.length := List.length_filter_le _ _
/-- What the document's Give answers. -/
def giveX (a b : Nat) (S : SS) (x : Int) : Nat × SS := if isS a S x then (0, gvS S ((x.toNat - b) / 1024) x.toNat) else (30, S)
theorem RX.id {w w' : World} {p gl a s : Nat} {B : List Nat} {S : SS} (h : RS w p gl a s B S) (hf : Fr [] w w') : RX w w' p gl a s B S := ⟨⟨B, h.fr0 hf, fun _ hk => hk, fun _ hk => .inl hk⟩, hf.nil⟩
theorem own1 (w : World) (x : Nat) : Rw (w.alloc (.cells #[.int .i64 x] 3)) w.heap.size (.slice (some ⟨w.heap.size, 0, none⟩) 1 1) [x] :=
  ⟨rfl, .inr ⟨_, 1, #[.int .i64 x], rfl, Nat.le_refl _, Blk.new _ _ _, Nat.le_refl _, by unfold maxLen; omega, rfl, rfl⟩⟩
section
variable {w : World} {p gl a s : Nat} {B : List Nat} {S : SS}
set_option maxRecDepth 100000 in
set_option maxHeartbeats 4000000 in
theorem xGive (h : RS w p gl a s B S) (hl : ∀ i, i < a → (S.fr i).length ≤ 1000 ∧ (S.lv i).length ≤ 1000) (hin : ∀ i, i < a → ∀ y ∈ S.lv i, lbase a s + 1024 * i ≤ y ∧ y < lbase a s + 1024 * i + 1024) (x : Int) :
    Calls Tryz.prog 30 #[.pointer (some ⟨p, 0, none⟩), .int .i64 x] w fun e w' => e = .returned (.int .i64 (giveX a (lbase a s) S x).1) ∧ RX w w' p gl a s B (giveX a (lbase a s) S x).2 := by
  have his := xIs h (fun i hi => (hl i hi).2) x
  have H0 := Lib.hid h
  by_cases hI : isS a S x = true
  · obtain ⟨i, hi, y, hy, rfl⟩ := isS_true.1 hI
    have hyi := hin i hi y hy
    have ei : (y - lbase a s) / 1024 = i := by omega
    have e : giveX a (lbase a s) S y = (0, gvS S i y) := by
      unfold giveX
      rw [if_pos hI, Int.toNat_natCast, ei]
    rw [e]
    rw [hI] at his
    have ha := h.cfg.a2
    have hxs := fun W => xslab9 (w := W) a s h.cfg y
    have elsv : lsv (lbase a s) (lsize a s) y = #[.int .i64 i, .bool true] := by
      unfold lsv
      rw [if_pos (by unfold lsize; omega), Int.toNat_natCast, ei]
    rw [elsv] at hxs
    obtain ⟨df, cf, dl, cl, rF, rL, hc⟩ := h.rowi i hi
    have hli := hl i hi
    have HRF := Lib.hid rF
    have HRL := Lib.hid rL
    generalize hnF : (S.fr i).length = nF at *
    generalize hnL : (S.lv i).length = nL at *
    have hi2 : (0 : Int) ≤ i := by omega
    have hi3 : (i : Int) < a := by omega
    obtain ⟨p0, p1⟩ := (show w.cell? ⟨p, 0, none⟩ = some (.int .i64 a) ∧ w.cell? ⟨p, 1, none⟩ = some (.int .i64 s) from ⟨H0.out.st.cell 0, H0.out.st.cell 1⟩)
    have HC := Lib.hid hc
    clear hI hyi ei e elsv h hl hin rF rL hc
    go_enter Tryz.func30, Tryz.ntmps30
    go_wp2_with fail
    with_reducible refine his.mono ?_
    rintro e w1 ⟨rfl, f1⟩
    have F1 := Lib.hid f1
    have hp01 := (show w1.cell? ⟨p, 0, none⟩ = some (.int .i64 a) ∧ w1.cell? ⟨p, 1, none⟩ = some (.int .i64 s) from ⟨(H0.out.fr0 f1).st.cell 0, (H0.out.fr0 f1).st.cell 1⟩)
    obtain ⟨p2, p3⟩ := hp01
    clear his f1 p0 p1
    go_wp2_with fail
    with_reducible refine (hxs _).mono ?_
    rintro e w2 ⟨rfl, f2⟩
    have F2 := Lib.hid (F1.out.trans f2)
    clear hxs f2 F1 p2 p3
    go_wp2_with fail
    go_loopw [7, 8] (fun v k W => ∃ (j : Nat) (u : Value), u = v ∧ j ≤ nL ∧ k = .int .i64 j ∧ Fr [] w W ∧ Rw W w.heap.size u (delS y ((S.lv i).take j))) (fun _ k _ => nL - (intOf k).toNat)
    case atStart => exact ⟨0, _, rfl, by omega, rfl, F2.out, Rw.nil _ _⟩
    case round =>
      clear F2
      obtain ⟨j, v, rfl, hj, rfl, hF, hR⟩ := hrel
      have F3 := Lib.hid hF
      have R3' := Lib.hid hR
      obtain ⟨d0, d1, d2, d3, d4⟩ := HC.out _ hF
      have j0 : (0 : Int) ≤ j := by omega
      have hlen : (delS y ((S.lv i).take j)).length ≤ 1000 := Nat.le_trans (delS_le _ _) (by rw [List.length_take]; omega)
      clear hF hR
      by_cases hjn : j < nL
      · have j1 : (j : Int) < nL := by omega
        have j2 : decide ((j : Int) < nL) = true := by simp; omega
        have j2' : decide (j < nL) = true := by simp; omega
        have wj : IntKind.i64.wrap ((j : Int) + 1) = (j : Int) + 1 := IntWalk.i64_in _ (by omega)
        have hjl : j < (S.lv i).length := by omega
        obtain ⟨gL, rfl, hgL, rL⟩ := HRL.out (by omega)
        have cj := (rL.fr F3.out (by simp)).cell j hjl
        have hst := delS_take (x := y) (List.getElem?_eq_getElem hjl)
        have hcl := rL.le
        rw [hnL] at hcl
        generalize (S.lv i)[j] = z at *
        clear rL
        by_cases hz : z = y
        · have b1 : ((z : Int) != y) = false := by simp [hz]
          rw [if_pos hz] at hst
          have R4 := Lib.hid (show Rw wr w.heap.size v (delS y ((S.lv i).take (j + 1))) from by rw [hst]; exact R3'.out)
          clear hz hst R3'
          go_wp2_with fail
          go_roundw
          case rel => exact ⟨j + 1, v, rfl, by omega, by go_num, F3.out, R4.out⟩
          case measure => simp [intOf]; omega
        · have b1 : ((z : Int) != y) = true := by simp; omega
          rw [if_neg hz] at hst
          have HST := Lib.hid hst
          have hsz := F3.out.size
          clear hz hst
          go_wp2_with (at_builtin; refine wpList_append2 rfl _ _ rfl rfl w.heap.size _ _ rfl z wr rfl R3'.out rfl (by omega) hsz ?_; intro g1 q1 W1 hO1 hF1 hob1)
          have R4 := Lib.hid (show Rw W1 w.heap.size (.slice (some ⟨g1, 0, none⟩) ((delS y ((S.lv i).take j)).length + 1) q1) (delS y ((S.lv i).take (j + 1))) from by rw [HST.out]; exact hO1)
          have F4 := Lib.hid (show Fr [] w W1 from F3.out.step hF1 (fun k hk => .inr (R3'.out.lt k (ownS_mem hk)).1))
          clear hO1 hF1 hob1 R3' F3 HST
          try go_wp2_with fail
          go_roundw
          case rel => exact ⟨j + 1, _, rfl, by omega, by go_num, F4.out, R4.out⟩
          case measure => simp [intOf]; omega
      · have j2 : decide ((j : Int) < nL) = false := by simp; omega
        have j2' : decide (j < nL) = false := by simp; omega
        have et : (S.lv i).take j = S.lv i := List.take_of_length_le (by omega)
        rw [et] at R3' hlen
        clear hjn et
        obtain ⟨dL, kL, rfl, hvL⟩ := own_row R3'.out
        obtain ⟨D, hD, hDb⟩ := hvL.toD
        have H3 := H0.out.fr0 F3.out
        have HS1 := Lib.hid (H3.setL i (delS y (S.lv i)) dL kL (D ++ B) (fun k hk => List.mem_append.2 (.inr hk)) (fun k hk => by
          rcases List.mem_append.1 hk with hk | hk
          · exact (hDb k hk).2
          · exact H3.lt k hk) (hD.mono (fun k hk => List.mem_append.2 (.inl hk))) hi)
        have HD1 := Lib.hid (show ∀ k ∈ D ++ B, k ∈ B ∨ w.heap.size ≤ k from fun k hk => by
          rcases List.mem_append.1 hk with hk | hk
          · exact .inr (hDb k hk).1
          · exact .inl hk)
        have FS1 := Lib.hid ((F3.out.nil (S := [gl])).setCell (p := ⟨gl, i * 3 + 2, none⟩) (.inl (by simp)) (.slice dL (delS y (S.lv i)).length kL))
        have hm3 : wr.heap.size = (wr.setCell ⟨gl, i * 3 + 2, none⟩ (.slice dL (delS y (S.lv i)).length kL)).heap.size := by simp [World.setCell]
        clear hvL hD hDb H3 R3' F3
        go_wp2_with fail
        generalize wr.setCell ⟨gl, i * 3 + 2, none⟩ (.slice dL (delS y (S.lv i)).length kL) = w4 at *
        obtain ⟨df4, cf4, dl4, cl4, rF4, rL4, hc4⟩ := HS1.out.rowi i hi
        have es : (S.set i (S.cls i) (S.fr i) (delS y (S.lv i))).fr i = S.fr i := by unfold SS.set; dsimp only; rw [up_same]
        rw [es] at rF4 hc4
        have HS2 := Lib.hid (fun (W : World) (hf : Fr [] w4 W) (d : Option Addr) (c : Nat) (hv : RowV W w4.heap.size d c (y :: S.fr i)) => (show RS (W.setCell ⟨gl, i * 3 + 1, none⟩ (.slice d (y :: S.fr i).length c)) p gl a s (rowB d ++ (D ++ B)) (S.set i (S.cls i) (y :: S.fr i) (delS y (S.lv i))) ∧ (∀ k ∈ rowB d ++ (D ++ B), k ∈ B ∨ w.heap.size ≤ k) from by
          have hs := HS1.out.fr0 hf
          obtain ⟨g, e, hb, hr⟩ := hv (by simp)
          subst e
          have := hs.setF i (y :: S.fr i) (some ⟨g, 0, none⟩) c ([g] ++ (D ++ B)) (fun k hk => List.mem_append.2 (.inr hk)) (fun k hk => by
            rcases List.mem_append.1 hk with hk | hk
            · simp at hk; subst hk; exact hr.lt
            · exact hs.lt k hk) (fun _ => ⟨g, rfl, by simp, hr⟩) hi
          rw [SS.set_set] at this
          have ec : (S.set i (S.cls i) (S.fr i) (delS y (S.lv i))).cls i = S.cls i := by unfold SS.set; dsimp only; rw [up_same]
          have el : (S.set i (S.cls i) (S.fr i) (delS y (S.lv i))).lv i = delS y (S.lv i) := by unfold SS.set; dsimp only; rw [up_same]
          rw [ec, el] at this
          refine ⟨this, fun k hk => ?_⟩
          rcases List.mem_append.1 hk with hk | hk
          · simp [rowB] at hk
            subst hk
            exact .inr (Nat.le_trans FS1.out.size hb)
          · exact HD1.out k hk))
        have hO1 : (w4.alloc (.cells #[.int .i64 (y : Nat)] 3)).drew.ownsRow w4.heap.size 3 1 (.slice (some ⟨w4.heap.size, 0, none⟩) 1 1) [y].length (intC [y]) := own1 w4 y
        obtain ⟨va, wa, E1, hO2, hG2⟩ := run_appJ (w4.alloc (.cells #[.int .i64 (y : Nat)] 3)).drew w4.heap.size _ [y] hO1 df4 cf4 (S.fr i) (fun j hj => by
          obtain ⟨g, e, hgB, hr⟩ := rF4 (by omega)
          exact ⟨g, 0, e, by rw [Nat.zero_add]; exact (hr.fr (((Fr.refl [] w4).alloc _).drew) (by simp)).cell j hj⟩) (by simp; omega) (by simp)
        rw [hnF] at E1
        have fa : Fr [] w4 wa := own_frJ hO1 hG2 (((Fr.refl [] w4).alloc _).drew) (Nat.le_refl _)
        obtain ⟨dA, cA, rfl, hvA⟩ := own_row hO2
        have HE := Lib.hid E1
        have HA := Lib.hid (HS2.out wa fa dA cA hvA)
        have FA := Lib.hid (FS1.out.trans fa.nil)
        obtain ⟨_, c31, c32, c33, c34⟩ := hc4 _ (Fr.refl [] w4)
        obtain ⟨_, c41, c42, c43, c44⟩ := hc4 _ (Fr.refl [] w4).drew
        obtain ⟨_, c51, c52, c53, c54⟩ := hc4 _ fa
        obtain ⟨_, c61, c62, c63, c64⟩ := hc4 _ ((Fr.refl [] w4).alloc (.cells #[.int .i64 (y : Nat)] 3)).drew
        rw [hnF] at c31 c41 c51 c61
        clear E1 hO1 hO2 hG2 hvA fa rF4 rL4 hc4 HS2
        have hnil : (gvS S i y).cls = (gvS S i y).cls := rfl
        have hcons : (y :: S.fr i).length = nF + 1 := by simp; omega
        have happ : ([y] ++ S.fr i).length = nF + 1 := by simp; omega
        rw [happ] at HE
        apply cutG
        · intro key
          go_region_law (refine step_app rfl (.tmp 76) (.tmp 84) 42 rfl rfl _ _ _ _ (by simp [Act.eval, Act.put]) (by simp [Act.eval, Act.put]) HE.out ?_)
          all_goals exact key
        · have hlA := HA.out
          rw [hcons] at hlA
          have HA2 := Lib.hid hlA.1
          have HB2 := Lib.hid hlA.2
          have FB := Lib.hid (FA.out.setCell (p := ⟨gl, i * 3 + 1, none⟩) (.inl (by simp)) (.slice dA (nF + 1) cA))
          clear hlA HA c31 c32 c33 c34 c41 c42 c43 c44 c51 c52 c53 c54 c61 c62 c63 c64
          generalize wa.setCell ⟨gl, i * 3 + 1, none⟩ (.slice dA (nF + 1) cA) = w5 at *
          obtain ⟨df5, cf5, dl5, cl5, rF5, rL5, hc5⟩ := HA2.out.rowi i hi
          obtain ⟨k0, k1, k2, k3, k4⟩ := hc5 _ (Fr.refl [] w5)
          clear hc5 rF5 rL5
          by_cases hz : delS y (S.lv i) = []
          · have EG := Lib.hid (show gvS S i y = S.set i 0 [] [] from by unfold gvS; rw [if_pos hz])
            have b1 : (((delS y (S.lv i)).length : Int) == 0) = true := by simp [hz]
            have b1' : ((delS y (S.lv i)).length == 0) = true := by simp [hz]
            go_wp2_with fail
            go_ret
            refine ⟨rfl, ?_⟩
            rw [EG.out]
            have hs := HA2.out.set i 0 [] [] none none 0 0 _ (fun _ h => h) HA2.out.lt (RowW.nil _ _ _ _) (RowW.nil _ _ _ _) hi
            rw [SS.set_set] at hs
            have hf := FB.out.setCells (b := gl) (.inl (by simp)) [.int .i64 0, .slice none 0 0, .slice none 0 0] (i * 3)
            exact ⟨⟨_, hs, fun k hk => List.mem_append.2 (.inr (List.mem_append.2 (.inr hk))), HB2.out⟩, hf⟩
          · have EG := Lib.hid (show gvS S i y = S.set i (S.cls i) (y :: S.fr i) (delS y (S.lv i)) from by unfold gvS; rw [if_neg hz])
            have b1 : (((delS y (S.lv i)).length : Int) == 0) = false := by simpa using hz
            have b1' : ((delS y (S.lv i)).length == 0) = false := by simpa using hz
            go_wp2_with fail
            go_ret
            refine ⟨rfl, ?_⟩
            rw [EG.out]
            exact ⟨⟨_, HA2.out, fun k hk => List.mem_append.2 (.inr (List.mem_append.2 (.inr hk))), HB2.out⟩, FB.out⟩
  · have e : giveX a (lbase a s) S x = (30, S) := by unfold giveX; rw [if_neg hI]
    rw [e]
    rw [Bool.not_eq_true] at hI
    rw [hI] at his
    have HID := Lib.hid (fun W (hf : Fr [] w W) => RX.id h hf)
    clear hI h hl hin e
    go_enter Tryz.func30, Tryz.ntmps30
    go_wp2_with fail
    with_reducible refine his.mono ?_
    rintro e w1 ⟨rfl, f1⟩
    go_wp2_with fail
    go_ret
    exact ⟨rfl, HID.out _ f1⟩
end
/-- The document's answer is the memory's. -/
theorem giveX_eq {t : TM} {S : SS} (hs : SlI t S) (hok : t.Ok) (x : Int) : giveX t.a (lbase t.a t.s) S x = giveS t.a (lbase t.a t.s) S x := by
  by_cases hI : isS t.a S x = true
  · obtain ⟨i, hi, y, hy, rfl⟩ := isS_true.1 hI
    have hb := blk_of hs hok hi (.inr hy)
    have hyi := (hs.each i hi).at_ hok hi (.inr hy)
    have ei : (y - lbase t.a t.s) / 1024 = i := by
      obtain ⟨h1, h2, h3, h4, h5, h6, h7⟩ := hyi
      have h0 := (hs.each i hi).none (.inr hy)
      obtain ⟨c1, c2, c3, c4, c5, c6, c7⟩ := csz_tab (S.cls i) (by omega) (hs.each i hi).c9
      unfold sla at h1 h5
      omega
    unfold giveX giveS
    rw [if_pos hI, hb, if_pos ⟨rfl, rfl, hy⟩, Int.toNat_natCast, ei]
  · have hn := isS_false.1 (by simpa using hI)
    unfold giveX
    rw [if_neg hI]
    exact (give_not hs hok x (fun y n hy => by
      obtain ⟨i, hi, hy, _⟩ := hy
      exact hn i hi y hy)).symm
theorem lv_in {t : TM} {S : SS} (hs : SlI t S) (hok : t.Ok) : ∀ i, i < t.a → ∀ y ∈ S.lv i, lbase t.a t.s + 1024 * i ≤ y ∧ y < lbase t.a t.s + 1024 * i + 1024 := fun i hi y hy => by
  obtain ⟨h1, h2, h3, h4, h5, h6, h7⟩ := (hs.each i hi).at_ hok hi (.inr hy)
  have h0 := (hs.each i hi).none (.inr hy)
  obtain ⟨c1, c2, c3, c4, c5, c6, c7⟩ := csz_tab (S.cls i) (by omega) (hs.each i hi).c9
  unfold sla at h1 h5
  omega
end Go.Proofs.YtkapkbiccppldaaGreatDoor

/- The memory's slabs: which blocks are live, how much room there is, which runs. -/
namespace Go.Proofs.YtkapkbiccppldaaGreatDoor
set_option linter.unusedVariables false
set_option linter.unusedSimpArgs false
open Go.RowKit

theorem so_ext : ∀ {l m : List Nat}, l.Pairwise (· < ·) → m.Pairwise (· < ·) → (∀ x, x ∈ l ↔ x ∈ m) → l = m
  | [], [], _, _, _ => rfl
  | [], y :: m, _, _, h => by have := (h y).2 (by simp); simp at this
  | x :: l, [], _, _, h => by have := (h x).1 (by simp); simp at this
  | x :: l, y :: m, hl, hm, h => by
    obtain ⟨l1, l2⟩ := List.pairwise_cons.1 hl
    obtain ⟨m1, m2⟩ := List.pairwise_cons.1 hm
    have e : x = y := by
      rcases List.mem_cons.1 ((h x).1 (by simp)) with e | hx
      · exact e
      · rcases List.mem_cons.1 ((h y).2 (by simp)) with e | hy
        · exact e.symm
        · have := l1 y hy
          have := m1 x hx
          omega
    subst e
    congr 1
    refine so_ext l2 m2 (fun z => ⟨fun hz => ?_, fun hz => ?_⟩)
    · rcases List.mem_cons.1 ((h z).1 (List.mem_cons_of_mem _ hz)) with e | hz'
      · have := l1 z hz; omega
      · exact hz'
    · rcases List.mem_cons.1 ((h z).2 (List.mem_cons_of_mem _ hz)) with e | hz'
      · have := m1 z hz; omega
      · exact hz'
/-- Of the first blocks of a slab, those that are live. -/
def lvP (t : TM) (i c : Nat) (L : List Nat) (j : Nat) : List Nat := ((List.range j).map (adr t i c)).filter fun x => decide (x ∈ L)
theorem lvP_succ (t : TM) (i c : Nat) (L : List Nat) (j : Nat) : lvP t i c L (j + 1) = if adr t i c j ∈ L then lvP t i c L j ++ [adr t i c j] else lvP t i c L j := by
  unfold lvP
  rw [List.range_succ, List.map_append, List.filter_append]
  by_cases h : adr t i c j ∈ L
  · simp [h]
  · simp [h]
theorem lvP_len (t : TM) (i c : Nat) (L : List Nat) (j : Nat) : (lvP t i c L j).length ≤ j := by
  unfold lvP
  exact Nat.le_trans (List.length_filter_le _ _) (by simp)
theorem lvP_all {t : TM} {S : SS} (hs : SlI t S) {i : Nat} (hi : i < t.a) (h0 : S.cls i ≠ 0) : lvP t i (S.cls i) (S.lv i) (nbk (S.cls i)) = S.lv i := by
  have h1 := hs.each i hi
  have hc : 1 ≤ S.cls i ∧ S.cls i ≤ 9 := ⟨by omega, h1.c9⟩
  refine so_ext ?_ h1.so (fun x => ?_)
  · refine List.Pairwise.filter _ (List.Pairwise.map _ (fun a b hab => ?_) List.pairwise_lt_range)
    obtain ⟨c1, c2, c3, c4, c5, c6, c7⟩ := csz_tab (S.cls i) hc.1 hc.2
    unfold adr
    have := Nat.mul_lt_mul_of_pos_left hab (show 0 < csz (S.cls i) by omega)
    omega
  · unfold lvP
    rw [List.mem_filter]
    simp only [decide_eq_true_eq, List.mem_map, List.mem_range]
    constructor
    · exact fun h => h.2
    · intro hx
      obtain ⟨k, hk, e⟩ := h1.mem h0 (.inr hx)
      exact ⟨⟨k, hk, e.symm⟩, hx⟩
section
variable {w : World} {q : MH} {t : TM} {S : SS} {B : Nat}
set_option maxRecDepth 100000 in
theorem peach9 (m : Nat) (i z c l f n p : Int) (k z' : Nat) (hk : k ≤ 9) (hc : c = k) (hz : z = z') (hz4 : z' ≤ 1048576) (F : FuncId) (caps : Array Value) (hcf : ∀ (args : Array Value) (w : World), (callFunc F args).run Tryz.prog w = .ok (.enter F args) w) (Inv : Nat → World → Prop)
    (h0 : Inv 0 (w.alloc (.cells (prC m i z c l f n p) 134))) (hT : ∀ j W, Inv j W → TabM W ∧ Blk W w.heap.size 134 (prC m i z c l f n p))
    (hdo : ∀ j W, j < nbk k → Inv j W → Calls Tryz.prog F (#[.int .i64 (z' + csz k * j : Nat)] ++ caps) W fun e w' => e = .returned (.tuple #[]) ∧ Inv (j + 1) w') :
    Calls Tryz.prog 117 #[.agg (prC m i z c l f n p), .func (.func F) #[] caps] w fun e w' => e = .returned (.tuple #[]) ∧ Inv (nbk k) w' := by
  have hb := Lib.hid (fun W hW => by
    have := cblocks (w := W) hW c
    rw [hc, nbkZ_nat k hk, ← hc] at this
    exact this)
  have hp := Lib.hid (fun W hW j hj => by
    have := cplace (w := W) hW k j ⟨by rcases Nat.eq_zero_or_pos k with e | e; (subst e; simp [nbk, csz] at hj); exact e, hk⟩ hj
    rw [← hc] at this
    exact this)
  have c35 := csz_mul k hk
  obtain ⟨_, c3, c5⟩ := c35
  have hadd : ∀ j, j < nbk k → IntKind.i64.wrap (z + ((csz k * j : Nat) : Int)) = ((z' + csz k * j : Nat) : Int) := fun j hj => by
    have : csz k * j ≤ 512 * 32 := Nat.mul_le_mul c3 (by omega)
    rw [hz, Int.natCast_add]
    exact IntWalk.i64_in _ (by omega)
  have HADD := Lib.hid hadd
  have HDO := Lib.hid hdo
  have HT := Lib.hid hT
  have H0 := Lib.hid h0
  generalize nbk k = N at *
  generalize csz k = s at *
  unfold prC at H0 HT ⊢
  clear hk hc hz hdo hT h0 hadd c3
  go_enter Tryz.func117, Tryz.ntmps117
  go_wp2_with fail
  (have d0 := ((HT.out _ _ H0.out).2).cell 0; have z0 := ((HT.out _ _ H0.out).2).frozen 0; have d1 := ((HT.out _ _ H0.out).2).cell 1; have z1 := ((HT.out _ _ H0.out).2).frozen 1; have d2 := ((HT.out _ _ H0.out).2).cell 2; have z2 := ((HT.out _ _ H0.out).2).frozen 2; have d3 := ((HT.out _ _ H0.out).2).cell 3; have z3 := ((HT.out _ _ H0.out).2).frozen 3; have d4 := ((HT.out _ _ H0.out).2).cell 4; have z4 := ((HT.out _ _ H0.out).2).frozen 4; have d5 := ((HT.out _ _ H0.out).2).cell 5; have z5 := ((HT.out _ _ H0.out).2).frozen 5; have d6 := ((HT.out _ _ H0.out).2).cell 6; have z6 := ((HT.out _ _ H0.out).2).frozen 6; have d7 := ((HT.out _ _ H0.out).2).cell 7; have z7 := ((HT.out _ _ H0.out).2).frozen 7; simp at d0 d1 d2 d3 d4 d5 d6 d7)
  go_wp2_with fail
  with_reducible refine (hb.out _ (HT.out _ _ H0.out).1).mono ?_
  rintro e w1 ⟨rfl, rfl⟩
  clear d0 z0 d1 z1 d2 z2 d3 z3 d4 z4 d5 z5 d6 z6 d7 z7
  go_wp2_with fail
  go_loopw [11] (fun v W => ∃ j : Nat, j ≤ N ∧ v = .int .i64 j ∧ Inv j W) (fun v _ => N - (intOf v).toNat)
  case atStart => exact ⟨0, by omega, rfl, H0.out⟩
  case round =>
    clear H0
    obtain ⟨j, hj, rfl, hI⟩ := hrel
    have HI := Lib.hid hI
    clear hI
    by_cases hlt : j < N
    · have b1 : decide ((j : Int) < N) = true := by simp; omega
      have b1' : decide (j < N) = true := by simp; omega
      have w3 : IntKind.i64.wrap ((j : Int) + 1) = (j : Int) + 1 := IntWalk.i64_in _ (by omega)
      have hpl := hp.out _ (HT.out _ _ HI.out).1 j hlt
      have hd := HDO.out j _ hlt HI.out
      have hw := HADD.out j hlt
      rw [Int.natCast_add] at hd hw
      generalize s * j = sj at *
      (have d0 := ((HT.out _ _ HI.out).2).cell 0; have z0 := ((HT.out _ _ HI.out).2).frozen 0; have d1 := ((HT.out _ _ HI.out).2).cell 1; have z1 := ((HT.out _ _ HI.out).2).frozen 1; have d2 := ((HT.out _ _ HI.out).2).cell 2; have z2 := ((HT.out _ _ HI.out).2).frozen 2; have d3 := ((HT.out _ _ HI.out).2).cell 3; have z3 := ((HT.out _ _ HI.out).2).frozen 3; have d4 := ((HT.out _ _ HI.out).2).cell 4; have z4 := ((HT.out _ _ HI.out).2).frozen 4; have d5 := ((HT.out _ _ HI.out).2).cell 5; have z5 := ((HT.out _ _ HI.out).2).frozen 5; have d6 := ((HT.out _ _ HI.out).2).cell 6; have z6 := ((HT.out _ _ HI.out).2).frozen 6; have d7 := ((HT.out _ _ HI.out).2).cell 7; have z7 := ((HT.out _ _ HI.out).2).frozen 7; simp at d0 d1 d2 d3 d4 d5 d6 d7)
      go_wp2_with fail
      with_reducible refine hpl.mono ?_
      rintro e w2 ⟨rfl, rfl⟩
      clear hpl
      go_wp2_with fail
      with_reducible refine hd.mono ?_
      rintro e w3 ⟨rfl, h3⟩
      have H3 := Lib.hid h3
      clear h3 hd
      clear d0 z0 d1 z1 d2 z2 d3 z3 d4 z4 d5 z5 d6 z6 d7 z7
      go_wp2_with fail
      go_roundw
      case rel => exact ⟨j + 1, by omega, by go_num, H3.out⟩
      case measure => simp [intOf]; omega
    · obtain rfl : j = N := by omega
      have b1 : decide ((j : Int) < j) = false := by simp
      have b1' : decide (j < j) = false := by simp
      go_wp2_with fail
      go_end0
      exact ⟨rfl, HI.out⟩
set_option maxRecDepth 100000 in
theorem slive1 (h : IsH w q t) (G5 G base : Nat) (v : Value) (L : List Nat) (i z c l f n p : Int) (k x kd : Nat) (hk : 1 ≤ k ∧ k ≤ 9) (hc : c = k) (h4 : x % 4 = 0) (hl : x + csz k ≤ lsize t.a t.s) (hkd : KdOn t x (csz k) kd)
    (hP : Blk w G5 134 (prC q.m i z c l f n p)) (hG : Blk w G 42 #[v]) (hO : Rw w base v L) (hL : L.length ≤ 1024) (hb : base ≤ w.heap.size) (hGb : G < base) :
    Calls Tryz.prog 118 #[.int .i64 x, .pointer (some ⟨G5, 0, none⟩), .pointer (some ⟨G, 0, none⟩)] w fun e w' => e = .returned (.tuple #[]) ∧ ∃ v', Blk w' G 42 #[v'] ∧ Rw w' base v' (if kd = 5 then L ++ [x] else L) ∧ Fr (G :: ownS v) w w' := by
  have hpl := plive h.m i z c l f n p k x kd hk hc h4 hl hkd
  have HP := Lib.hid hP
  have HG := Lib.hid hG
  have HO := Lib.hid hO
  have hvG : G ∉ ownS v := fun hm => by
    have := (hO.lt G (ownS_mem hm)).1
    omega
  clear hG hO h hP
  unfold prC at HP hpl
  by_cases h5 : kd = 5
  · have b1 : ((kd : Int) == 5) = true := by simp [h5]
    rw [b1] at hpl
    rw [if_pos h5]
    (have d0 := HP.out.cell 0; have z0 := HP.out.frozen 0; have d1 := HP.out.cell 1; have z1 := HP.out.frozen 1; have d2 := HP.out.cell 2; have z2 := HP.out.frozen 2; have d3 := HP.out.cell 3; have z3 := HP.out.frozen 3; have d4 := HP.out.cell 4; have z4 := HP.out.frozen 4; have d5 := HP.out.cell 5; have z5 := HP.out.frozen 5; have d6 := HP.out.cell 6; have z6 := HP.out.frozen 6; have d7 := HP.out.cell 7; have z7 := HP.out.frozen 7; simp at d0 d1 d2 d3 d4 d5 d6 d7)
    clear hkd h5 b1 HP hk hc
    go_enter Tryz.func118, Tryz.ntmps118
    go_wp2_with fail
    with_reducible refine hpl.mono ?_
    rintro e w1 ⟨rfl, f1⟩
    have hG1 := HG.out.fr f1 (by simp)
    have c0 := hG1.cell 0
    simp at c0
    have HO1 := Lib.hid (HO.out.fr0 f1)
    have HG2 := Lib.hid hG1
    have hb1 : base ≤ w1.heap.size := Nat.le_trans hb f1.size
    have F1 := Lib.hid f1
    clear d0 z0 d1 z1 d2 z2 d3 z3 d4 z4 d5 z5 d6 z6 d7 z7
    clear hG1 f1 HO HG hpl
    go_wp2_with (at_builtin; refine wpList_append2 rfl _ _ rfl rfl base v L rfl x w1 rfl HO1.out rfl (by omega) hb1 ?_; intro g1 cap1 W1 hO1 hF1 hob1; have hG1 := HG2.out.fr hF1 hvG; have d0 := hG1.cell 0; have z0 := hG1.frozen 0; simp at d0)
    have hO2 : Rw (W1.setCell ⟨G, 0, none⟩ (.slice (some ⟨g1, 0, none⟩) (L.length + 1) cap1)) base (.slice (some ⟨g1, 0, none⟩) (L.length + 1) cap1) (L ++ [x]) := own_set hO1 hG1 (by decide) 0 _
    have hB2 := hG1.set 0 (.slice (some ⟨g1, 0, none⟩) (L.length + 1) cap1)
    simp at hB2
    have f2 : Fr (G :: ownS v) w (W1.setCell ⟨G, 0, none⟩ (.slice (some ⟨g1, 0, none⟩) (L.length + 1) cap1)) := ((F1.out.nil (S := G :: ownS v)).trans (hF1.mono (S' := G :: ownS v) (fun k hk => .inl (List.mem_cons_of_mem _ hk)))).setCell (.inl (by simp)) _
    clear d0 z0
    go_end0
    exact ⟨rfl, _, hB2, hO2, f2⟩
  · have b1 : ((kd : Int) == 5) = false := by simp; omega
    rw [b1] at hpl
    rw [if_neg h5]
    (have d0 := HP.out.cell 0; have z0 := HP.out.frozen 0; have d1 := HP.out.cell 1; have z1 := HP.out.frozen 1; have d2 := HP.out.cell 2; have z2 := HP.out.frozen 2; have d3 := HP.out.cell 3; have z3 := HP.out.frozen 3; have d4 := HP.out.cell 4; have z4 := HP.out.frozen 4; have d5 := HP.out.cell 5; have z5 := HP.out.frozen 5; have d6 := HP.out.cell 6; have z6 := HP.out.frozen 6; have d7 := HP.out.cell 7; have z7 := HP.out.frozen 7; simp at d0 d1 d2 d3 d4 d5 d6 d7)
    clear hkd h5 b1 HP hk hc
    go_enter Tryz.func118, Tryz.ntmps118
    go_wp2_with fail
    with_reducible refine hpl.mono ?_
    rintro e w1 ⟨rfl, f1⟩
    have F1 := Lib.hid f1
    clear f1
    clear d0 z0 d1 z1 d2 z2 d3 z3 d4 z4 d5 z5 d6 z6 d7 z7
    go_wp2_with fail
    go_end0
    exact ⟨rfl, _, HG.out.fr F1.out (by simp), HO.out.fr0 F1.out, F1.out.nil⟩
end
end Go.Proofs.YtkapkbiccppldaaGreatDoor

/- Package slab: Live, Room; the memory's runs. -/
namespace Go.Proofs.YtkapkbiccppldaaGreatDoor
set_option linter.unusedVariables false
set_option linter.unusedSimpArgs false
open Go.RowKit

section
variable {w : World} {q : MH} {t : TM} {S : SS} {B : Nat}
set_option maxRecDepth 100000 in
set_option maxHeartbeats 2000000 in
theorem slive (h : IsH w q t) (hs : SlI t S) (i : Nat) (hi : i < t.a) : Calls Tryz.prog 33 #[.pointer (some ⟨q.m, 0, none⟩), .int .i64 i] w fun e w' => ∃ v, e = .returned v ∧ Rw w' w.heap.size v (S.lv i) ∧ IsH w' q t ∧ Fr q.blocks w w' := by
  have hof := hsof h i hi
  have h1 := hs.each i hi
  obtain ⟨s1, s2, s3, s4, s5⟩ := sla_ok h.ok i hi
  have hok := h.ok
  have hlt := h.m.lt
  have HI := Lib.hid (fun (W0 W : World) (G5 G : Nat) (h0 : IsH W0 q t) (hG5 : Blk W0 G5 134 (prC q.m i (sla t i) (t.hd i 0) (t.hd i 1) (t.hd i 2) (t.hd i 3) (t.hd i 4))) (hG : Blk W0 G 42 #[.slice none 0 0]) (hg : 5 ≤ G) (hgq : G ∉ q.blocks) (hne : G5 ≠ G) => (show Calls Tryz.prog 117 #[.agg (prC q.m i (sla t i) (t.hd i 0) (t.hd i 1) (t.hd i 2) (t.hd i 3) (t.hd i 4)), .func (.func 118) #[] #[.pointer (some ⟨G5, 0, none⟩), .pointer (some ⟨G, 0, none⟩)]] W0 (fun e w' => e = .returned (.tuple #[]) ∧ ∃ v, Blk w' G 42 #[v] ∧ Rw w' (W0.heap.size + 1) v (S.lv i) ∧ IsH w' q t ∧ Fr [G] W0 w') from by
    have hcl : t.hd i 0 = S.cls i := h1.h0
    have hEnter : ∀ (args : Array Value) (w : World), (callFunc 118 args).run Tryz.prog w = .ok (.enter 118 args) w := run_enterF Tryz.func118 rfl rfl
    have hG5l := hG5.lt
    have hGl := hG.lt
    have hbx : Blk (W0.alloc (.cells (prC q.m i (sla t i) (t.hd i 0) (t.hd i 1) (t.hd i 2) (t.hd i 3) (t.hd i 4)) 134)) W0.heap.size 134 (prC q.m i (sla t i) (t.hd i 0) (t.hd i 1) (t.hd i 2) (t.hd i 3) (t.hd i 4)) := Blk.new W0 _ _
    have hf0 : Fr [] W0 (W0.alloc (.cells (prC q.m i (sla t i) (t.hd i 0) (t.hd i 1) (t.hd i 2) (t.hd i 3) (t.hd i 4)) 134)) := (Fr.refl [] W0).alloc _
    have hp := peach9 (w := W0) q.m i (sla t i) (t.hd i 0) (t.hd i 1) (t.hd i 2) (t.hd i 3) (t.hd i 4) (S.cls i) (sla t i) h1.c9 (by rw [hcl]) rfl (by omega) 118 #[.pointer (some ⟨G5, 0, none⟩), .pointer (some ⟨G, 0, none⟩)] hEnter
      (fun j W => (∃ v, Blk W G 42 #[v] ∧ Rw W (W0.heap.size + 1) v (lvP t i (S.cls i) (S.lv i) j)) ∧ Fr [G] W0 W ∧ Blk W W0.heap.size 134 (prC q.m i (sla t i) (t.hd i 0) (t.hd i 1) (t.hd i 2) (t.hd i 3) (t.hd i 4)))
      ⟨⟨_, hG.fr hf0 (by simp), Rw.nil _ _⟩, hf0.nil, hbx⟩
      (fun j W hj => ⟨(h0.fr1 hj.2.1 hgq hg).m.tab, hj.2.2⟩)
      (fun j W hj ⟨⟨v, k1, k2⟩, k3, k4⟩ => by
        have h0' : S.cls i ≠ 0 := fun e => by rw [e] at hj; simp [nbk, csz] at hj
        obtain ⟨a1, a2, a3⟩ := adr_ok (t := t) hok hi ⟨(by omega : 1 ≤ S.cls i), h1.c9⟩ hj
        obtain ⟨c1, c2, c3, c4, c5, c6, c7⟩ := csz_tab (S.cls i) (by omega) h1.c9
        have hkd : KdOn t (adr t i (S.cls i) j) (csz (S.cls i)) (if adr t i (S.cls i) j ∈ S.lv i then 5 else 6) := by
          rcases h1.mem' h0' hj with hm | hm
          · have hn : adr t i (S.cls i) j ∉ S.lv i := fun hl => by
              have := h1.nodup h0'
              rw [List.nodup_append] at this
              exact this.2.2 _ hm _ hl rfl
            rw [if_neg hn]
            exact h1.free.kd _ hm
          · rw [if_pos hm]
            exact h1.live _ hm
        have hsz := k4.lt
        have hlen := lvP_len t i (S.cls i) (S.lv i) j
        refine (slive1 (h0.fr1 k3 hgq hg) G5 G (W0.heap.size + 1) v (lvP t i (S.cls i) (S.lv i) j) i (sla t i) (t.hd i 0) (t.hd i 1) (t.hd i 2) (t.hd i 3) (t.hd i 4) (S.cls i) (adr t i (S.cls i) j) _ ⟨by omega, h1.c9⟩ (by rw [hcl]) (by omega) (by omega) hkd (hG5.fr k3 (by simp; exact hne)) k1 k2 (by omega) (by omega) (by omega)).mono fun e w' ⟨he, v', j1, j2, j3⟩ => ⟨he, ⟨v', j1, ?_⟩, ?_, ?_⟩
        · rw [lvP_succ]
          by_cases hm : adr t i (S.cls i) j ∈ S.lv i
          · rw [if_pos hm, if_pos rfl] at j2
            rw [if_pos hm]
            exact j2
          · rw [if_neg hm, if_neg (by decide)] at j2
            rw [if_neg hm]
            exact j2
        · refine k3.step j3 (fun k hk => ?_)
          rcases List.mem_cons.1 hk with rfl | hk
          · exact .inl (by simp)
          · have := (k2.lt k (ownS_mem hk)).1
            exact .inr (by omega)
        · refine k4.fr j3 (fun hm => ?_)
          rcases List.mem_cons.1 hm with e | hk
          · omega
          · have := (k2.lt _ (ownS_mem hk)).1
            omega)
    refine hp.mono fun e w' ⟨he, ⟨v, k1, k2⟩, k3, k4⟩ => ⟨he, v, k1, ?_, h0.fr1 k3 hgq hg, k3⟩
    have e1 : lvP t i (S.cls i) (S.lv i) (nbk (S.cls i)) = S.lv i := by
      by_cases h0' : S.cls i = 0
      · rw [(h1.z h0').2.1, h0']
        rfl
      · exact lvP_all hs hi h0'
    rw [e1] at k2
    exact k2))
  have hgx : 5 ≤ w.heap.size := by have := h.m.tab.size; have := h.tabs.size; omega
  generalize t.hd i 0 = c0 at *
  generalize t.hd i 1 = c1 at *
  generalize t.hd i 2 = c2 at *
  generalize t.hd i 3 = c3 at *
  generalize t.hd i 4 = c4 at *
  generalize sla t i = sl at *
  have HLT := Lib.hid hlt
  clear h h1 s1 s2 s3 s4 s5 hok hs hlt
  unfold prC at HI hof
  generalize q.m = m at *
  go_enter Tryz.func33, Tryz.ntmps33
  go_wp2_with fail
  with_reducible refine hof.mono ?_
  rintro e w1 ⟨rfl, h1, f1⟩
  have H1 := Lib.hid h1
  have F1 := Lib.hid f1
  have hs1 := f1.size
  clear hof f1
  go_wp2_with fail
  have f2 : Fr [] w1 ((w1.alloc (.cells #[.pointer (some ⟨m, 0, none⟩), .int .i64 i, .int .i64 sl, .int .i64 c0, .int .i64 c1, .int .u32 c2, .int .i64 c3, .int .i64 c4] 134)).alloc (.cells #[.slice none 0 0] 42)) := ((Fr.refl [] w1).alloc _).alloc _
  have hea := HI.out _ w1 w1.heap.size (w1.heap.size + 1) (H1.out.fr0 f2) ((Blk.new w1 134 _).alloc _) (Blk.new2 w1 _ 42 _) (by omega) (fun hm => by have := H1.out.m.lt _ hm; omega) (by omega)
  have hsz2 : ((w1.alloc (.cells #[.pointer (some ⟨m, 0, none⟩), .int .i64 i, .int .i64 sl, .int .i64 c0, .int .i64 c1, .int .u32 c2, .int .i64 c3, .int .i64 c4] 134)).alloc (.cells #[.slice none 0 0] 42)).heap.size = w1.heap.size + 2 := by simp
  with_reducible refine hea.mono ?_
  rintro e w3 ⟨rfl, v, k1, k2, k3, k4⟩
  have c5 := k1.cell 0
  simp at c5
  have HK := Lib.hid (show Rw w3 w.heap.size v (S.lv i) from k2.lo (by omega))
  have HH := Lib.hid k3
  have HF := Lib.hid (show Fr q.blocks w w3 from (F1.out.trans f2.nil).step k4 (fun k hk => by simp at hk; subst hk; exact .inr (by omega)))
  clear k1 k2 k3 k4 hea f2 HI
  go_wp2_with fail
  go_ret
  exact ⟨_, rfl, HK.out, HH.out, HF.out⟩
theorem fld_part (v0 v1 v2 v3 v4 v5 v6 v7 : Value) (W : World) : (Instr.field 134 (.agg #[v0, v1, v2, v3, v4, v5, v6, v7]) 3).run Tryz.prog W = .ok (.agg #[v3, v4, v5, v6, v7]) W := by kernel_rfl
theorem fld_slab (v3 v4 v5 v6 v7 : Value) (W : World) : (Instr.field 132 (.agg #[v3, v4, v5, v6, v7]) 1).run Tryz.prog W = .ok v4 W := by kernel_rfl
/-- How much room: of the lists' slabs. -/
def roomS (a : Nat) (S : SS) (c : Nat) : Nat := ((lst a S.inn c).map fun i => nbk c - (S.lv i).length).sum
set_option maxRecDepth 100000 in
set_option maxHeartbeats 2000000 in
theorem sroom (h : IsH w q t) (hs : SlI t S) (c : Int) : Calls Tryz.prog 34 #[.pointer (some ⟨q.m, 0, none⟩), .int .i64 c] w fun e w' => e = .returned (.int .i64 (if cszZ c = 0 then 0 else roomS t.a S c.toNat : Nat)) ∧ IsH w' q t ∧ Fr q.blocks w w' := by
  have hcs := csize h.m.tab c
  by_cases h0 : cszZ c = 0
  · rw [if_pos h0]
    rw [h0] at hcs
    have H0 := Lib.hid h
    clear h hs h0
    go_enter Tryz.func34, Tryz.ntmps34
    go_wp2_with fail
    with_reducible refine hcs.mono ?_
    rintro e w1 ⟨rfl, rfl⟩
    go_wp2_with fail
    go_ret
    exact ⟨rfl, H0.out, Fr.refl _ _⟩
  · rw [if_neg h0]
    have hc : 1 ≤ c ∧ c ≤ 9 := by
      unfold cszZ at h0
      split at h0
      · assumption
      · exact absurd rfl h0
    obtain ⟨c, rfl⟩ : ∃ k : Nat, c = k := ⟨c.toNat, by omega⟩
    rw [Int.toNat_natCast]
    have ha := liall h.m hs.ls (c : Int)
    have e0 : lstI t.a S.inn c = lst t.a S.inn c := by unfold lstI; rw [if_pos (by omega), Int.toNat_natCast]
    rw [e0] at ha
    have hlen : (lst t.a S.inn c).length ≤ 64 := Nat.le_trans (lst_len _ _ _) h.ok.cfg.a2
    have hb := fun W (hM : TabM W) => cblocks (w := W) hM (c : Int)
    rw [nbkZ_nat c (by omega)] at hb
    have hEach := Lib.hid (fun W (hW : IsH W q t) j (hj : j < (lst t.a S.inn c).length) => (show ∃ p : Int, (∃ f : Int, ∃ n : Int, ∃ z : Int, Calls Tryz.prog 92 #[.pointer (some ⟨q.m, 0, none⟩), .int .i64 ((lst t.a S.inn c)[j] : Nat)] W fun e w' => e = .returned (.agg (prC q.m ((lst t.a S.inn c)[j] : Nat) z c (((S.lv (lst t.a S.inn c)[j]).length : Nat) : Int) f n p)) ∧ IsH w' q t ∧ Fr q.blocks W w') ∧ (S.lv (lst t.a S.inn c)[j]).length ≤ nbk c from by
      obtain ⟨j1, j2⟩ := lst_lt (List.getElem_mem hj)
      have j3 := (inn_list j2 (by omega)).1
      have h1 := hs.each _ j1
      have := hsof hW _ j1
      rw [h1.h0, h1.h1, j3] at this
      refine ⟨_, ⟨_, _, _, this⟩, ?_⟩
      have hl := h1.len (by omega)
      rw [j3] at hl
      omega))
    have hnb : nbk c ≤ 32 := (csz_tab c (by omega) (by omega)).2.2.2.2.1
    have HLT := Lib.hid h.m.lt
    unfold roomS
    have hsum : ∀ j, (((lst t.a S.inn c).take j).map fun i => nbk c - (S.lv i).length).sum ≤ 32 * 64 := fun j => by
      have : ∀ l : List Nat, (l.map fun i => nbk c - (S.lv i).length).sum ≤ 32 * l.length := fun l => by
        induction l with
        | nil => simp
        | cons x l ih => simp; omega
      refine Nat.le_trans (this _) (Nat.mul_le_mul (Nat.le_refl _) (by rw [List.length_take]; omega))
    have HS := Lib.hid (fun j (hj : j < (lst t.a S.inn c).length) => (show (((lst t.a S.inn c).take (j + 1)).map fun i => nbk c - (S.lv i).length).sum = (((lst t.a S.inn c).take j).map fun i => nbk c - (S.lv i).length).sum + (nbk c - (S.lv (lst t.a S.inn c)[j]).length) from by
      rw [List.take_succ_eq_append_getElem hj, List.map_append, List.sum_append]; simp))
    have HS0 := Lib.hid (show (lst t.a S.inn c).take (lst t.a S.inn c).length = lst t.a S.inn c from List.take_length)
    have HSU := Lib.hid hsum
    have HB := Lib.hid hb
    have H0 := Lib.hid h
    have b0 : ((cszZ (c : Int) : Int) == 0) = false := beq_eq_false_iff_ne.2 (by omega)
    clear h hs e0 hsum hb h0
    generalize lst t.a S.inn c = L at *
    generalize cszZ (c : Int) = cz at *
    generalize hfm : (fun i => nbk c - (S.lv i).length) = fm at *
    generalize nbk c = nb at *
    go_enter Tryz.func34, Tryz.ntmps34
    go_wp2_with fail
    with_reducible refine hcs.mono ?_
    rintro e w1 ⟨rfl, rfl⟩
    clear hcs
    go_wp2_with fail
    with_reducible refine ha.mono ?_
    rintro e w2 ⟨v, rfl, hv, k1, f1⟩
    obtain ⟨ad, cap, rfl, hrow⟩ := own_row hv
    have HR := Lib.hid hrow
    have H2 := Lib.hid (H0.out.step k1 f1)
    have F2 := Lib.hid f1
    clear hv hrow k1 f1 ha
    go_wp2_with fail
    go_loopw [5, 15] (fun n i W => ∃ j : Nat, j ≤ L.length ∧ i = .int .i64 j ∧ n = .int .i64 (((L.take j).map fm).sum : Nat) ∧ IsH W q t ∧ Fr q.blocks w2 W) (fun _ i _ => L.length - (intOf i).toNat)
    case atStart => exact ⟨0, by omega, rfl, by simp, H2.out, Fr.refl _ _⟩
    case round =>
      obtain ⟨j, hj, rfl, rfl, hI, hF⟩ := hrel
      have HI := Lib.hid hI
      have F3 := Lib.hid hF
      clear hI hF H2
      by_cases hjl : j < L.length
      · obtain ⟨p, ⟨f, n, z, hof⟩, hle⟩ := hEach.out _ HI.out j hjl
        obtain ⟨g, rfl, hg, hr⟩ := HR.out (by omega)
        have c1 := (hr.fr F3.out (fun hm => by have := HLT.out g hm; omega)).cell j hjl
        have hcb := HB.out _ HI.out.m.tab
        have hst := HS.out j hjl
        have hs1 := HSU.out j
        have hs2 := HSU.out (j + 1)
        have j1 : (j : Int) < L.length := by omega
        have j0 : (0 : Int) ≤ j := by omega
        have b1 : decide ((j : Int) < L.length) = true := by simp; omega
        have b1' : decide (j < L.length) = true := by simp; omega
        have wj : IntKind.i64.wrap ((j : Int) + 1) = (j : Int) + 1 := IntWalk.i64_in _ (by omega)
        have hfe : fm L[j] = nb - (S.lv L[j]).length := by rw [← hfm]
        generalize L[j] = y at *
        generalize hlv : (S.lv y).length = lv at *
        have wd : IntKind.i64.wrap ((nb : Int) - (lv : Int)) = ((nb - lv : Nat) : Int) := by rw [IntWalk.i64_in _ (by omega)]; omega
        have HST := Lib.hid hst
        have wa : IntKind.i64.wrap ((((L.take j).map fm).sum : Int) + ((nb - lv : Nat) : Int)) = ((((L.take (j + 1)).map fm).sum : Nat) : Int) := by rw [hst]; exact IntWalk.i64_in _ (by omega)
        clear hr hst hs1 hs2
        unfold prC at hof
        generalize ((L.take j).map fm).sum = s1 at *
        generalize hs2 : ((L.take (j + 1)).map fm).sum = s2 at *
        generalize nb - lv = dd at *
        go_wp2_with fail
        with_reducible refine hcb.mono ?_
        rintro e w3 ⟨rfl, rfl⟩
        go_wp2_with fail
        with_reducible refine hof.mono ?_
        rintro e w4 ⟨rfl, h4, f4⟩
        have H4 := Lib.hid h4
        have F4 := Lib.hid (F3.out.trans f4)
        have e1 := fld_part (.pointer (some ⟨q.m, 0, none⟩)) (.int .i64 y) (.int .i64 z) (.int .i64 c) (.int .i64 lv) (.int .u32 f) (.int .i64 n) (.int .i64 p) w4
        have e2 := fld_slab (.int .i64 c) (.int .i64 lv) (.int .u32 f) (.int .i64 n) (.int .i64 p) w4
        clear hof h4 f4 hcb
        go_wp2_with fail
        go_roundw
        case rel => exact ⟨j + 1, by omega, by go_num, by rw [hs2], H4.out, F4.out⟩
        case measure => simp [intOf]; omega
      · have ej : j = L.length := by omega
        have b1 : decide ((j : Int) < L.length) = false := by simp; omega
        have b1' : decide (j < L.length) = false := by simp; omega
        have e1 : ((L.take j).map fm).sum = (L.map fm).sum := by rw [ej, HS0.out]
        rw [e1]
        clear hjl
        go_wp2_with fail
        go_ret
        exact ⟨rfl, HI.out, F2.out.trans F3.out⟩
theorem roomS_eq {a : Nat} (hS : ∀ i, i < a → S.cls i ≠ 0 → (S.fr i).length + (S.lv i).length = nbk (S.cls i)) (c : Nat) (hc : 1 ≤ c) : roomS a S c = roomN a S c := by
  unfold roomS lst roomN
  have : ∀ n, n ≤ a → ((((List.range n).filter fun x => decide (S.inn x = (c : Int))).map fun i => nbk c - (S.lv i).length).sum) = ((List.range n).map fun i => if (S.cls i : Int) = (c : Int) ∧ (0 : Int) < (c : Int) then (S.fr i).length else 0).sum := fun n => by
    induction n with
    | zero => intro _; rfl
    | succ n ih =>
      intro hn
      rw [List.range_succ, List.filter_append, List.map_append, List.sum_append, ih (by omega), List.map_append, List.sum_append]
      congr 1
      by_cases h1 : S.cls n = c
      · have hl := hS n (by omega) (by omega)
        by_cases h2 : S.fr n = []
        · have : S.inn n = -1 := by unfold SS.inn; rw [if_neg (by omega), if_pos h2]
          simp [this, h1, h2]
        · have : S.inn n = c := by unfold SS.inn; rw [if_neg (by omega), if_neg h2, h1]
          rw [h1] at hl
          have hc' : (0 : Int) < (c : Int) := by omega
          simp [this, h1, hc']
          rw [if_pos (by omega)]
          omega
      · have h3 : S.inn n ≠ (c : Int) := by
          unfold SS.inn
          split
          · omega
          · split <;> omega
        have h4 : ¬ (S.cls n : Int) = (c : Int) := by omega
        simp [h4, h3]
  exact this a (Nat.le_refl _)
theorem freeN_eq (a : Nat) (S : SS) : (lst a S.inn 0).length = freeN a S := by
  unfold lst freeN
  induction a with
  | zero => rfl
  | succ n ih =>
    rw [List.range_succ, List.filter_append, List.length_append, ih, List.map_append, List.sum_append]
    congr 1
    by_cases h1 : S.cls n = 0
    · have : S.inn n = 0 := by unfold SS.inn; rw [if_pos h1]
      simp [this, h1]
    · have : S.inn n ≠ 0 := by
        unfold SS.inn
        rw [if_neg h1]
        split <;> omega
      simp [this, h1]
theorem mruns (h : IsT w q t) : Calls Tryz.prog 37 #[.pointer (some ⟨q.m, 0, none⟩)] w fun e w' => ∃ v, e = .returned v ∧ OwnR w' w.heap.size v ((runs t.kinds).map sc4) ∧ Fr [] w w' := by
  have hn := h.m.none
  have c0 := h.m.st.cell 0
  obtain ⟨lk, hw⟩ := h.m.wt
  have hks : t.ms.ks = t.kinds := rfl
  rw [hks] at hw
  have hf := Lib.hid (fun W hW => (callsIn_wide.1 (runs_in 4 (by omega) W q.pw q.bw t.kinds lk t.ms.ft hW)))
  simp at c0
  have HW := Lib.hid hw
  have hl := hw.st.lt
  have HR := Lib.hid (show ∀ W v base, W.ownsRow base 98 3 v (runs t.kinds).length (runCells (runs t.kinds)) → OwnR W base v ((runs t.kinds).map sc4) from fun W v base ho => by
    unfold OwnR
    rw [List.length_map, rCells_sc4]
    exact ho)
  have hcf : ∀ W, IsW W q.pw q.bw t.kinds lk t.ms.ft → Calls Tryz.prog 120 #[.agg #[.pointer (some ⟨q.pw, 0, none⟩)]] W fun e w' => ∃ v, e = .returned v ∧ OwnR w' W.heap.size v ((runs t.kinds).map sc4) ∧ Fr [] W w' := fun W hW => by
    have hfa := hf.out _ (hW.fr (S := []) ((Fr.refl _ _).alloc (.cells #[.pointer (some ⟨q.pw, 0, none⟩)] 125)) (by simp) (by simp))
    have HRW := Lib.hid (fun (w' : World) (v : Value) (ho : w'.ownsRow (W.alloc (.cells #[.pointer (some ⟨q.pw, 0, none⟩)] 125)).heap.size 98 3 v (runs t.kinds).length (runCells (runs t.kinds))) => ownR_base (base := W.heap.size) (by simp) (HR.out _ _ _ ho))
    clear hf hW HW
    go_enter Tryz.func120, Tryz.ntmps120
    go_wp2_with fail
    with_reducible refine hfa.mono ?_
    rintro e w' ⟨v, rfl, ho, f⟩
    have HO := Lib.hid (HRW.out _ _ ho)
    have HF := Lib.hid (((Fr.refl [] W).alloc (.cells #[.pointer (some ⟨q.pw, 0, none⟩)] 125)).trans f)
    clear ho f HRW hfa
    go_wp2_with fail
    go_ret
    exact ⟨_, rfl, HO.out, HF.out⟩
  have hcw := hcf w hw
  generalize t.kinds = ks at *
  clear h hw hf hks
  go_enter Tryz.func37, Tryz.ntmps37
  go_wp2_with fail
  with_reducible refine hn.mono ?_
  rintro e w' ⟨rfl, rfl⟩
  go_wp2_with fail
  with_reducible refine hcw.mono ?_
  rintro e w1 ⟨v, rfl, ho, f⟩
  have HO := Lib.hid ho
  clear ho
  go_wp2_with fail
  go_ret
  exact ⟨_, rfl, HO.out, f⟩
end
end Go.Proofs.YtkapkbiccppldaaGreatDoor

/- The document's runs of slabs. -/
namespace Go.Proofs.YtkapkbiccppldaaGreatDoor
set_option linter.unusedVariables false
set_option linter.unusedSimpArgs false
open Go.RowKit

theorem withR_len (l : List Rn) (r : Rn) : (withR l r).length ≤ l.length + 1 := by
  unfold withR
  split
  · split
    · simp
    · simp
  · simp
theorem foldR_len : ∀ (p l : List Rn), (p.foldl withR l).length ≤ l.length + p.length
  | [], l => by simp
  | r :: p, l => by
    have := foldR_len p (withR l r)
    have := withR_len l r
    simp only [List.foldl_cons, List.length_cons]
    omega
/-- All lengths together are small. -/
def lenR (l : List Rn) : Nat := (l.map (·.2.1)).sum
theorem lenR_app (l m : List Rn) : lenR (l ++ m) = lenR l + lenR m := by simp [lenR]
theorem withR_lenR (l : List Rn) (r : Rn) : lenR (withR l r) = lenR l + r.2.1 := by
  rcases List.eq_nil_or_concat l with rfl | ⟨l, x, rfl⟩
  · simp [withR_nil, lenR]
  · rw [List.concat_eq_append, withR_snoc]
    split
    · simp [lenR]; omega
    · simp [lenR]; omega
/-- A row of runs. -/
def RowR (w : World) (g cap : Nat) (l : List Rn) : Prop := ∃ cur, Blk w g 98 cur ∧ cur.size = cap * 3 ∧ l.length ≤ cap ∧ cap ≤ maxLen ∧ cur.toList.take (l.length * 3) = rCells l
theorem RowR.fr {w w' : World} {g cap : Nat} {l : List Rn} {S : List Nat} (h : RowR w g cap l) (hf : Fr S w w') (hg : g ∉ S) : RowR w' g cap l := by
  obtain ⟨cur, hb, r⟩ := h
  exact ⟨cur, hb.fr hf hg, r⟩
theorem RowR.le {w : World} {g cap : Nat} {l : List Rn} (h : RowR w g cap l) : l.length ≤ cap := by
  obtain ⟨cur, _, _, h, _⟩ := h
  exact h
theorem RowR.lt {w : World} {g cap : Nat} {l : List Rn} (h : RowR w g cap l) : g < w.heap.size := by
  obtain ⟨cur, hb, _⟩ := h
  exact hb.lt
theorem RowR.frozen {w : World} {g cap : Nat} {l : List Rn} (h : RowR w g cap l) (i : Nat) : w.frozen? ⟨g, i, none⟩ = false := by
  obtain ⟨cur, hb, _⟩ := h
  exact hb.frozen i
theorem RowR.at_ {w : World} {g cap : Nat} {l : List Rn} (h : RowR w g cap l) {j : Nat} {u : Value} (hu : (rCells l)[j]? = some u) : w.cell? ⟨g, j, none⟩ = some u := by
  obtain ⟨cur, hb, h1, h2, h3, h4⟩ := h
  have hj : j < l.length * 3 := by
    have := (List.getElem?_eq_some_iff.1 hu).1
    rw [rCells_len] at this; omega
  rw [hb.cell, ← Array.getElem?_toList, ← hu, ← h4, List.getElem?_take, if_pos hj]
theorem RowR.cells {w : World} {g cap : Nat} {l : List Rn} (h : RowR w g cap l) {k : Nat} {r : Rn} (hk : l[k]? = some r) : w.cell? ⟨g, k * 3, none⟩ = some (.int .i64 r.1) ∧ w.cell? ⟨g, k * 3 + 1, none⟩ = some (.int .i64 r.2.1) ∧ w.cell? ⟨g, k * 3 + 2, none⟩ = some (.int .i64 r.2.2) := by
  obtain ⟨e1, e2, e3⟩ := rCells_get l k r hk
  rw [Nat.mul_comm k 3]
  exact ⟨h.at_ e1, h.at_ e2, h.at_ e3⟩
theorem OwnR.rowR {w : World} {base : Nat} {v : Value} {l : List Rn} (h : OwnR w base v l) (h0 : 0 < l.length) : ∃ g cap, v = .slice (some ⟨g, 0, none⟩) l.length cap ∧ base ≤ g ∧ RowR w g cap l := by
  obtain ⟨h1, ⟨h2, h3⟩ | ⟨g, cap, cur, rfl, hb, hg, r1, r2, r3, r4⟩⟩ := h
  · omega
  · exact ⟨g, cap, rfl, hb, cur, hg, r3, r1, r2, r4⟩
theorem RowR.own {w : World} {base g cap : Nat} {l : List Rn} (h : RowR w g cap l) (hb : base ≤ g) : OwnR w base (.slice (some ⟨g, 0, none⟩) l.length cap) l := by
  obtain ⟨cur, hg, r3, r1, r2, r4⟩ := h
  exact ⟨by rw [rCells_len]; omega, .inr ⟨g, cap, cur, rfl, hb, hg, r1, r2, r3, r4⟩⟩
theorem rCells_app (l m : List Rn) : rCells (l ++ m) = rCells l ++ rCells m := by simp [rCells]
theorem RowR.setL {w : World} {g cap : Nat} {l : List Rn} {x : Rn} (h : RowR w g cap (l ++ [x])) (m : Nat) : RowR (w.setCell ⟨g, l.length * 3 + 1, none⟩ (.int .i64 m)) g cap (l ++ [(x.1, m, x.2.2)]) := by
  obtain ⟨cur, hb, h1, h2, h3, h4⟩ := h
  rw [List.length_append, List.length_singleton] at h2 h4
  refine ⟨_, hb.set (l.length * 3 + 1) (.int .i64 m), by simpa using h1, by simpa using h2, h3, ?_⟩
  rw [List.length_append, List.length_singleton]
  rw [rCells_app] at h4 ⊢
  apply List.ext_getElem?
  intro i
  rw [Array.toList_setIfInBounds]
  have hc : ∀ i, i < (l.length + 1) * 3 → cur.toList[i]? = (rCells l ++ rCells [x])[i]? := fun i hi => by
    rw [← h4, List.getElem?_take, if_pos hi]
  rcases Nat.lt_or_ge i ((l.length + 1) * 3) with hi | hi
  · rw [List.getElem?_take, if_pos hi]
    by_cases e : i = l.length * 3 + 1
    · subst e
      rw [List.getElem?_set_self (by simp; omega), List.getElem?_append_right (by rw [rCells_len]; omega), rCells_len]
      rw [show l.length * 3 + 1 - 3 * l.length = 1 by omega]
      rfl
    · rw [List.getElem?_set_ne (fun h => e h.symm), hc i hi]
      rcases Nat.lt_or_ge i (l.length * 3) with hl | hl
      · rw [List.getElem?_append_left (by rw [rCells_len]; omega), List.getElem?_append_left (by rw [rCells_len]; omega)]
      · rw [List.getElem?_append_right (by rw [rCells_len]; omega), List.getElem?_append_right (by rw [rCells_len]; omega), rCells_len]
        rcases (by omega : i - 3 * l.length = 0 ∨ i - 3 * l.length = 2) with e2 | e2 <;> rw [e2] <;> rfl
  · rw [List.getElem?_take, if_neg (by omega), List.getElem?_eq_none (by rw [List.length_append, rCells_len, rCells_len]; simp; omega)]
theorem run_appRR (w : World) (base : Nat) (v : Value) (l : List Rn) (h : OwnR w base v l) (g c : Nat) (m : List Rn) (hm : RowR w g c m) (n : Nat) (hn : m.length = n) (cap : Nat) (hl : l.length + n ≤ 1048576) (hbase : base ≤ w.heap.size) :
    ∃ v' w', (Builtin.append_ #[62, 62] 62 #[v, .slice (some ⟨g, 0, none⟩) n cap]).run Tryz.prog w = .ok v' w' ∧ OwnR w' base v' (l ++ m) ∧ w.grownBy w' v.ownBlock := by
  subst hn
  obtain ⟨i, hi, hz, hs, hb⟩ := info_rn'
  obtain ⟨v', w', hrun, h2, h3, _, _⟩ := run_append_own_at (P := Tryz.prog) w base 62 62 98 i (.agg #[.int .i64 0, .int .i64 0, .int .i64 0]) 3 24 Tryz.underlying62 hi hz hs hb rfl (by decide) v l.length (rCells l) h ⟨g, 0, none⟩ m.length cap (rCells m) (by rw [rCells_len]; omega) (fun j u hu => by
    have := hm.at_ hu
    have hadd : (⟨g, 0, none⟩ : Addr).add j = ⟨g, j, none⟩ := by unfold Addr.add; split <;> simp_all
    rw [hadd]; exact this) (fun u hu => by
      unfold rCells at hu
      obtain ⟨r, _, hr⟩ := List.mem_flatMap.1 hu
      simp at hr
      rcases hr with rfl | rfl | rfl <;> rfl) (by unfold maxLen; omega) (by omega) hbase
  refine ⟨v', w', hrun, ?_, h3⟩
  unfold OwnR
  rw [List.length_append, rCells_app]
  exact h2
theorem ownR0 (w : World) : OwnR (w.alloc (.cells #[] 98)) w.heap.size (.slice (some ⟨w.heap.size, 0, none⟩) 0 0) [] :=
  ⟨rfl, .inr ⟨_, 0, #[], rfl, Nat.le_refl _, Blk.new _ _ _, Nat.le_refl _, by unfold maxLen; omega, rfl, rfl⟩⟩
theorem wpList_app0 {P : Program} {w : World} {ops : Array Oper} {rest : List Oper} {o : Oper} {a : Act} {Q : Exit → Act → World → Prop} (hgd : o.guard = none)
    (s x : Operand) (t : TypeId) (hop : o.op = Op.call { callee := Callee.builtin Builtin.append, args := #[s, x], argTypes := #[t, t] }) (hty : o.type = t)
    (vs vx v' : Value) (w' : World) (hs : a.eval s = vs) (hx : a.eval x = vx) (hrun : (Builtin.append_ #[t, t] t #[vs, vx]).run P w = .ok v' w')
    (h : wpList P ops Q rest (a.put o.dst v') w') : wpList P ops Q (o :: rest) a w :=
  wpList_plain hgd fun K hK => oper_app s x t hop hty vs vx v' w' hs hx hrun (hK _ _ h)
set_option maxRecDepth 100000 in
set_option maxHeartbeats 2000000 in
theorem xwith {w : World} {base : Nat} {v : Value} {l : List Rn} (h : OwnR w base v l) (r : Rn) (hl : l.length ≤ 4096) (hs : lenR l + r.2.1 ≤ 1048576) (hb : base ≤ w.heap.size) :
    Calls Tryz.prog 122 #[v, .agg #[.int .i64 r.1, .int .i64 r.2.1, .int .i64 r.2.2]] w fun e w' => ∃ v', e = .returned v' ∧ OwnR w' base v' (withR l r) ∧ Fr (ownS v) w w' := by
  obtain ⟨ra, rl, rk⟩ := r
  simp only at hs ⊢
  have f0 : Fr [] w (w.alloc (.cells #[.int .i64 ra, .int .i64 rl, .int .i64 rk] 98)).drew := ((Fr.refl [] w).alloc _).drew
  have B0 := Lib.hid (Blk.new w 98 #[.int .i64 ra, .int .i64 rl, .int .i64 rk])
  have hO := Lib.hid h
  have HT := Lib.hid (fun (W1 : World) (hg : ((w.alloc (.cells #[.int .i64 ra, .int .i64 rl, .int .i64 rk] 98)).alloc (.cells #[.int .i64 ra, .int .i64 rl, .int .i64 rk] 98)).drew.grownBy W1 v.ownBlock) => (show Fr (ownS v) w W1 from f0.nil.trans (fr_grown (W := (w.alloc (.cells #[.int .i64 ra, .int .i64 rl, .int .i64 rk] 98)).drew) (o := (.cells #[.int .i64 ra, .int .i64 rl, .int .i64 rk] 98)) hg)))
  have HK0 := Lib.hid (show OwnR ((w.alloc (.cells #[.int .i64 ra, .int .i64 rl, .int .i64 rk] 98)).alloc (.cells #[.int .i64 ra, .int .i64 rl, .int .i64 rk] 98)).drew base v l from own_keep h (f0.alloc _))
  have HB2 := Lib.hid (show Blk ((w.alloc (.cells #[.int .i64 ra, .int .i64 rl, .int .i64 rk] 98)).alloc (.cells #[.int .i64 ra, .int .i64 rl, .int .i64 rk] 98)).drew (w.heap.size + 1) 98 #[.int .i64 ra, .int .i64 rl, .int .i64 rk] from Blk.new2 w _ 98 _)
  rcases List.eq_nil_or_concat l with rfl | ⟨l0, x, rfl⟩
  · obtain ⟨A, c, rfl⟩ := own_slice h
    have d0 := B0.out.drew.cell 0
    have d1 := B0.out.drew.cell 1
    have d2 := B0.out.drew.cell 2
    simp at d0 d1 d2
    have b1 : decide ((0 : Int) < 0) = false := rfl
    clear h f0 hl hs
    simp only [List.length_nil] at *
    go_enter Tryz.func122, Tryz.ntmps122
    go_wp2_with fail
    refine wp_region_held_drew (S := fun _ => True) (by kernel_rfl) (trivial) (fun hHeld => ?_)
    refine wpAnyH_take (i := 0) (oi := ?ooa0) (v := ?vva0) ?hia0 (by kernel_rfl) (by kernel_rfl) (by kernel_rfl) ?hqa0 (Or.inl ⟨?hwa0, ?hha0⟩) hHeld ?rra0
    case hia0 => (simp only [List.getElem?_toArray, List.getElem?_cons_zero, List.getElem?_cons_succ]; rfl)
    case hqa0 => exact fun _ _ _ h => h
    case hwa0 => rfl
    case hha0 => (intro w hSw; (try dsimp only at hSw); go_simp; try with_reducible rfl)
    try simp only [Act.put, List.setIfInBounds_toArray, List.set_cons_zero, List.set_cons_succ]
    refine wpAnyH_take (i := 1) (oi := ?ooa1) (v := ?vva1) ?hia1 (by kernel_rfl) (by kernel_rfl) (by kernel_rfl) ?hqa1 (Or.inl ⟨?hwa1, ?hha1⟩) hHeld ?rra1
    case hia1 => (simp only [List.getElem?_toArray, List.getElem?_cons_zero, List.getElem?_cons_succ]; rfl)
    case hqa1 => exact fun _ _ _ h => h
    case hwa1 => rfl
    case hha1 => (intro w hSw; (try dsimp only at hSw); go_simp; try with_reducible rfl)
    try simp only [Act.put, List.setIfInBounds_toArray, List.set_cons_zero, List.set_cons_succ]
    refine wpAnyH_take (i := 2) (oi := ?ooa2) (v := ?vva2) ?hia2 (by kernel_rfl) (by kernel_rfl) (by kernel_rfl) ?hqa2 (Or.inl ⟨?hwa2, ?hha2⟩) hHeld ?rra2
    case hia2 => (simp only [List.getElem?_toArray, List.getElem?_cons_zero, List.getElem?_cons_succ]; rfl)
    case hqa2 => exact fun _ _ _ h => h
    case hwa2 => rfl
    case hha2 => (intro w hSw; (try dsimp only at hSw); go_simp; try with_reducible rfl)
    try simp only [Act.put, List.setIfInBounds_toArray, List.set_cons_zero, List.set_cons_succ]
    refine wpAnyH_take (i := 3) (oi := ?ooa3) (v := ?vva3) ?hia3 (by kernel_rfl) (by kernel_rfl) (by kernel_rfl) ?hqa3 (Or.inl ⟨?hwa3, ?hha3⟩) hHeld ?rra3
    case hia3 => (simp only [List.getElem?_toArray, List.getElem?_cons_zero, List.getElem?_cons_succ]; rfl)
    case hqa3 => exact fun _ _ _ h => h
    case hwa3 => rfl
    case hha3 => (intro w hSw; (try dsimp only at hSw); go_simp; try with_reducible rfl)
    try simp only [Act.put, List.setIfInBounds_toArray, List.set_cons_zero, List.set_cons_succ]
    refine wpAnyH_take (i := 4) (oi := ?ooa4) (v := undef) ?hia4 (by kernel_rfl) (by kernel_rfl) (by kernel_rfl) ?hqa4 (Or.inr ⟨?hwa4, rfl⟩) hHeld ?rra4
    case hia4 => (simp only [List.getElem?_toArray, List.getElem?_cons_zero, List.getElem?_cons_succ]; rfl)
    case hqa4 => exact fun _ _ _ h => h
    case hwa4 => rfl
    try simp only [Act.put, List.setIfInBounds_toArray, List.set_cons_zero, List.set_cons_succ]
    refine wpAnyH_take (i := 5) (oi := ?ooa5) (v := undef) ?hia5 (by kernel_rfl) (by kernel_rfl) (by kernel_rfl) ?hqa5 (Or.inr ⟨?hwa5, rfl⟩) hHeld ?rra5
    case hia5 => (simp only [List.getElem?_toArray, List.getElem?_cons_zero, List.getElem?_cons_succ]; rfl)
    case hqa5 => exact fun _ _ _ h => h
    case hwa5 => rfl
    try simp only [Act.put, List.setIfInBounds_toArray, List.set_cons_zero, List.set_cons_succ]
    refine wpAnyH_take (i := 6) (oi := ?ooa6) (v := undef) ?hia6 (by kernel_rfl) (by kernel_rfl) (by kernel_rfl) ?hqa6 (Or.inr ⟨?hwa6, rfl⟩) hHeld ?rra6
    case hia6 => (simp only [List.getElem?_toArray, List.getElem?_cons_zero, List.getElem?_cons_succ]; rfl)
    case hqa6 => exact fun _ _ _ h => h
    case hwa6 => rfl
    try simp only [Act.put, List.setIfInBounds_toArray, List.set_cons_zero, List.set_cons_succ]
    refine wpAnyH_take (i := 7) (oi := ?ooa7) (v := undef) ?hia7 (by kernel_rfl) (by kernel_rfl) (by kernel_rfl) ?hqa7 (Or.inr ⟨?hwa7, rfl⟩) hHeld ?rra7
    case hia7 => (simp only [List.getElem?_toArray, List.getElem?_cons_zero, List.getElem?_cons_succ]; rfl)
    case hqa7 => exact fun _ _ _ h => h
    case hwa7 => rfl
    try simp only [Act.put, List.setIfInBounds_toArray, List.set_cons_zero, List.set_cons_succ]
    refine wpAnyH_take (i := 8) (oi := ?ooa8) (v := undef) ?hia8 (by kernel_rfl) (by kernel_rfl) (by kernel_rfl) ?hqa8 (Or.inr ⟨?hwa8, rfl⟩) hHeld ?rra8
    case hia8 => (simp only [List.getElem?_toArray, List.getElem?_cons_zero, List.getElem?_cons_succ]; rfl)
    case hqa8 => exact fun _ _ _ h => h
    case hwa8 => rfl
    try simp only [Act.put, List.setIfInBounds_toArray, List.set_cons_zero, List.set_cons_succ]
    refine wpAnyH_take (i := 9) (oi := ?ooa9) (v := undef) ?hia9 (by kernel_rfl) (by kernel_rfl) (by kernel_rfl) ?hqa9 (Or.inr ⟨?hwa9, rfl⟩) hHeld ?rra9
    case hia9 => (simp only [List.getElem?_toArray, List.getElem?_cons_zero, List.getElem?_cons_succ]; rfl)
    case hqa9 => exact fun _ _ _ h => h
    case hwa9 => rfl
    try simp only [Act.put, List.setIfInBounds_toArray, List.set_cons_zero, List.set_cons_succ]
    refine wpAnyH_take (i := 10) (oi := ?ooa10) (v := undef) ?hia10 (by kernel_rfl) (by kernel_rfl) (by kernel_rfl) ?hqa10 (Or.inr ⟨?hwa10, rfl⟩) hHeld ?rra10
    case hia10 => (simp only [List.getElem?_toArray, List.getElem?_cons_zero, List.getElem?_cons_succ]; rfl)
    case hqa10 => exact fun _ _ _ h => h
    case hwa10 => rfl
    try simp only [Act.put, List.setIfInBounds_toArray, List.set_cons_zero, List.set_cons_succ]
    refine wpAnyH_take (i := 11) (oi := ?ooa11) (v := undef) ?hia11 (by kernel_rfl) (by kernel_rfl) (by kernel_rfl) ?hqa11 (Or.inr ⟨?hwa11, rfl⟩) hHeld ?rra11
    case hia11 => (simp only [List.getElem?_toArray, List.getElem?_cons_zero, List.getElem?_cons_succ]; rfl)
    case hqa11 => exact fun _ _ _ h => h
    case hwa11 => rfl
    try simp only [Act.put, List.setIfInBounds_toArray, List.set_cons_zero, List.set_cons_succ]
    refine wpAnyH_take (i := 12) (oi := ?ooa12) (v := undef) ?hia12 (by kernel_rfl) (by kernel_rfl) (by kernel_rfl) ?hqa12 (Or.inr ⟨?hwa12, rfl⟩) hHeld ?rra12
    case hia12 => (simp only [List.getElem?_toArray, List.getElem?_cons_zero, List.getElem?_cons_succ]; rfl)
    case hqa12 => exact fun _ _ _ h => h
    case hwa12 => rfl
    try simp only [Act.put, List.setIfInBounds_toArray, List.set_cons_zero, List.set_cons_succ]
    refine wpAnyH_take (i := 13) (oi := ?ooa13) (v := undef) ?hia13 (by kernel_rfl) (by kernel_rfl) (by kernel_rfl) ?hqa13 (Or.inr ⟨?hwa13, rfl⟩) hHeld ?rra13
    case hia13 => (simp only [List.getElem?_toArray, List.getElem?_cons_zero, List.getElem?_cons_succ]; rfl)
    case hqa13 => exact fun _ _ _ h => h
    case hwa13 => rfl
    try simp only [Act.put, List.setIfInBounds_toArray, List.set_cons_zero, List.set_cons_succ]
    refine wpAnyH_take (i := 14) (oi := ?ooa14) (v := ?vva14) ?hia14 (by kernel_rfl) (by kernel_rfl) (by kernel_rfl) ?hqa14 (Or.inl ⟨?hwa14, ?hha14⟩) hHeld ?rra14
    case hia14 => (simp only [List.getElem?_toArray, List.getElem?_cons_zero, List.getElem?_cons_succ]; rfl)
    case hqa14 => exact fun _ _ _ h => h
    case hwa14 => rfl
    case hha14 => (intro w hSw; (try dsimp only at hSw); go_simp; try with_reducible rfl)
    try simp only [Act.put, List.setIfInBounds_toArray, List.set_cons_zero, List.set_cons_succ]
    refine wpAnyH_done (by kernel_rfl) ?_ _
    go_wp2_with (at_builtin; go_must (refine wpList_appR rfl _ _ rfl rfl base _ [] rfl HK0.out _ (ra, rl, rk) rfl HB2.out (by simp) (by simp; omega) ?_); intro v1 W1 hO1 hg1 hob1)
    have HF := Lib.hid (HT.out _ hg1)
    have HO1 := Lib.hid hO1
    clear hO1 hg1 hob1
    go_wp2_with fail
    go_ret
    exact ⟨_, rfl, HO1.out, HF.out⟩
  · rw [List.concat_eq_append] at *
    obtain ⟨g, cap, rfl, hg, hr⟩ := h.rowR (by simp)
    obtain ⟨xa, xl, xk⟩ := x
    rw [withR_snoc]
    have hls : xl + rl ≤ 1048576 := by
      rw [lenR_app] at hs
      simp [lenR] at hs
      omega
    have HCC := Lib.hid (fun W (hf : Fr [] w W) => (hr.fr hf (by simp)).cells (k := l0.length) (r := (xa, xl, xk)) (by simp))
    have hcap := hr.le
    have hgl := hr.lt
    have HRR := Lib.hid hr
    have hlen : (l0 ++ [(xa, xl, xk)]).length = l0.length + 1 := by simp
    have wl : IntKind.i64.wrap (((l0 ++ [(xa, xl, xk)]).length : Int) - 1) = (l0.length : Int) := by rw [hlen, IntWalk.i64_in _ (by omega)]; omega
    have c2 := (HCC.out _ f0).2.2
    have d0 := B0.out.drew.cell 0
    have d1 := B0.out.drew.cell 1
    have d2 := B0.out.drew.cell 2
    have hY : (w.alloc (.cells #[.int .i64 ra, .int .i64 rl, .int .i64 rk] 98)).drew.cell? ⟨g, l0.length * 3 + 2, none⟩ = some (.int .i64 xk) ∧ (w.alloc (.cells #[.int .i64 ra, .int .i64 rl, .int .i64 rk] 98)).drew.cell? ⟨w.heap.size, 2, none⟩ = some (.int .i64 rk) := ⟨c2, d2⟩
    have HLEN := Lib.hid hlen
    simp at d0 d1 d2 c2
    clear hlen
    generalize hL : l0 ++ [(xa, xl, xk)] = L at *
    generalize hm : l0.length = m at *
    generalize hn : L.length = n at *
    have m0 : (0 : Int) ≤ m := by omega
    have hnm : n = m + 1 := HLEN.out
    have m1 : (m : Int) < n := by omega
    have b1 : decide ((0 : Int) < n) = true := by simp; omega
    have b1' : decide (0 < n) = true := by simp; omega
    have hl0 : l0.length ≤ 4096 := by omega
    have hnm' := hnm
    clear hnm HLEN
    by_cases hk : xk = rk
    · have b2 : ((xk : Int) == rk) = true := by simp [hk]
      rw [if_pos hk]
      have fz : Fr [] w ((w.alloc (.cells #[.int .i64 ra, .int .i64 rl, .int .i64 rk] 98)).alloc (.cells #[] 98)).drew := (((Fr.refl [] w).alloc _).alloc _).drew
      have ho0 : OwnR ((w.alloc (.cells #[.int .i64 ra, .int .i64 rl, .int .i64 rk] 98)).alloc (.cells #[] 98)).drew (w.heap.size + 1) (.slice (some ⟨w.heap.size + 1, 0, none⟩) 0 0) [] := by
        have := ownR0 (w.alloc (.cells #[.int .i64 ra, .int .i64 rl, .int .i64 rk] 98))
        rw [World.size_alloc] at this
        exact this
      obtain ⟨v2, w2, E1, ho2, hg2⟩ := run_appRR _ _ _ [] ho0 g cap L (hr.fr fz (by simp)) n hn cap (by simp; omega) (by simp)
      rw [List.nil_append] at ho2
      have f2 : Fr [] w w2 := own_fr ho0 hg2 fz (by omega)
      have hb2 : w2.cell? ⟨w.heap.size, 1, none⟩ = some (.int .i64 rl) ∧ w.heap.size < w.heap.size + 1 := by
        refine ⟨?_, by omega⟩
        have := own_box ho0 hg2 ((B0.out.alloc (.cells #[] 98)).drew) (by omega)
        have h1 := this.cell 1
        simpa using h1
      obtain ⟨g2, cap2, rfl, hgg2, hr2⟩ := ho2.rowR (by omega)
      rw [hn] at E1
      have hx2 := (hr2.cells (k := m) (r := (xa, xl, xk)) (by rw [← hL, ← hm]; simp)).2.1
      have hfz2 := hr2.frozen (m * 3 + 1)
      have hc2 := hr2.le
      rw [hn] at hc2
      have HR2 := Lib.hid hr2
      have F2 := Lib.hid f2
      have hE := Lib.hid E1
      have d21 := hb2.1
      have d21' : w2.drew.cell? ⟨w.heap.size, 1, none⟩ = some (.int .i64 rl) := d21
      have hx2' : w2.drew.cell? ⟨g2, m * 3 + 1, none⟩ = some (.int .i64 xl) := hx2
      have hfz2' : w2.drew.frozen? ⟨g2, m * 3 + 1, none⟩ = false := hfz2
      have ws : IntKind.i64.wrap ((xl : Int) + rl) = ((xl + rl : Nat) : Int) := IntWalk.i64_in _ (by omega)
      have hmc : m < cap2 := by omega
      have hnc : (n : Int) ≤ cap2 := by omega
      have HFIN := Lib.hid (show OwnR (w2.setCell ⟨g2, m * 3 + 1, none⟩ (.int .i64 (xl + rl : Nat))).drew base (.slice (some ⟨g2, 0, none⟩) n cap2) (l0 ++ [(xa, xl + rl, xk)]) ∧ Fr (ownS (.slice (some ⟨g, 0, none⟩) n cap)) w (w2.setCell ⟨g2, m * 3 + 1, none⟩ (.int .i64 (xl + rl : Nat))).drew from by
        constructor
        · rw [← hL] at hr2
          have h5 := hr2.setL (xl + rl)
          rw [hm] at h5
          have h6 := h5.own (base := base) (by omega)
          have e : (l0 ++ [(xa, xl + rl, xk)]).length = n := by simp [hm, hnm']
          rw [e] at h6
          exact h6
        · exact ((f2.nil).setCell (p := ⟨g2, m * 3 + 1, none⟩) (.inr (by show w.heap.size ≤ g2; omega)) _).drew)
      clear h hs hr HCC HRR ho0 hg2 E1 ho2 f2 fz hb2 hr2 hnm'
      go_enter Tryz.func122, Tryz.ntmps122
      go_wp2_with fail
      refine wp_region_held_drew (S := fun W => W.cell? ⟨g, m * 3 + 2, none⟩ = some (.int .i64 xk) ∧ W.cell? ⟨w.heap.size, 2, none⟩ = some (.int .i64 rk)) (by kernel_rfl) (hY) (fun hHeld => ?_)
      refine wpAnyH_take (i := 0) (oi := ?ooc0) (v := ?vvc0) ?hic0 (by kernel_rfl) (by kernel_rfl) (by kernel_rfl) ?hqc0 (Or.inl ⟨?hwc0, ?hhc0⟩) hHeld ?rrc0
      case hic0 => (simp only [List.getElem?_toArray, List.getElem?_cons_zero, List.getElem?_cons_succ]; rfl)
      case hqc0 => exact fun _ _ _ h => h
      case hwc0 => rfl
      case hhc0 => (intro w hSw; (try dsimp only at hSw); go_simp; try with_reducible rfl)
      try simp only [Act.put, List.setIfInBounds_toArray, List.set_cons_zero, List.set_cons_succ]
      refine wpAnyH_take (i := 1) (oi := ?ooc1) (v := ?vvc1) ?hic1 (by kernel_rfl) (by kernel_rfl) (by kernel_rfl) ?hqc1 (Or.inl ⟨?hwc1, ?hhc1⟩) hHeld ?rrc1
      case hic1 => (simp only [List.getElem?_toArray, List.getElem?_cons_zero, List.getElem?_cons_succ]; rfl)
      case hqc1 => exact fun _ _ _ h => h
      case hwc1 => rfl
      case hhc1 => (intro w hSw; (try dsimp only at hSw); go_simp; try with_reducible rfl)
      try simp only [Act.put, List.setIfInBounds_toArray, List.set_cons_zero, List.set_cons_succ]
      refine wpAnyH_take (i := 2) (oi := ?ooc2) (v := ?vvc2) ?hic2 (by kernel_rfl) (by kernel_rfl) (by kernel_rfl) ?hqc2 (Or.inl ⟨?hwc2, ?hhc2⟩) hHeld ?rrc2
      case hic2 => (simp only [List.getElem?_toArray, List.getElem?_cons_zero, List.getElem?_cons_succ]; rfl)
      case hqc2 => exact fun _ _ _ h => h
      case hwc2 => rfl
      case hhc2 => (intro w hSw; (try dsimp only at hSw); go_simp; try with_reducible rfl)
      try simp only [Act.put, List.setIfInBounds_toArray, List.set_cons_zero, List.set_cons_succ]
      refine wpAnyH_take (i := 3) (oi := ?ooc3) (v := ?vvc3) ?hic3 (by kernel_rfl) (by kernel_rfl) (by kernel_rfl) ?hqc3 (Or.inl ⟨?hwc3, ?hhc3⟩) hHeld ?rrc3
      case hic3 => (simp only [List.getElem?_toArray, List.getElem?_cons_zero, List.getElem?_cons_succ]; rfl)
      case hqc3 => exact fun _ _ _ h => h
      case hwc3 => rfl
      case hhc3 => (intro w hSw; (try dsimp only at hSw); go_simp; try with_reducible rfl)
      try simp only [Act.put, List.setIfInBounds_toArray, List.set_cons_zero, List.set_cons_succ]
      refine wpAnyH_take (i := 4) (oi := ?ooc4) (v := ?vvc4) ?hic4 (by kernel_rfl) (by kernel_rfl) (by kernel_rfl) ?hqc4 (Or.inl ⟨?hwc4, ?hhc4⟩) hHeld ?rrc4
      case hic4 => (simp only [List.getElem?_toArray, List.getElem?_cons_zero, List.getElem?_cons_succ]; rfl)
      case hqc4 => exact fun _ _ _ h => h
      case hwc4 => rfl
      case hhc4 => (intro w hSw; (try dsimp only at hSw); go_simp; try with_reducible rfl)
      try simp only [Act.put, List.setIfInBounds_toArray, List.set_cons_zero, List.set_cons_succ]
      refine wpAnyH_take (i := 5) (oi := ?ooc5) (v := ?vvc5) ?hic5 (by kernel_rfl) (by kernel_rfl) (by kernel_rfl) ?hqc5 (Or.inl ⟨?hwc5, ?hhc5⟩) hHeld ?rrc5
      case hic5 => (simp only [List.getElem?_toArray, List.getElem?_cons_zero, List.getElem?_cons_succ]; rfl)
      case hqc5 => exact fun _ _ _ h => h
      case hwc5 => rfl
      case hhc5 => (intro w hSw; (try dsimp only at hSw); go_simp; try with_reducible rfl)
      try simp only [Act.put, List.setIfInBounds_toArray, List.set_cons_zero, List.set_cons_succ]
      refine wpAnyH_take (i := 6) (oi := ?ooc6) (v := ?vvc6) ?hic6 (by kernel_rfl) (by kernel_rfl) (by kernel_rfl) ?hqc6 (Or.inl ⟨?hwc6, ?hhc6⟩) hHeld ?rrc6
      case hic6 => (simp only [List.getElem?_toArray, List.getElem?_cons_zero, List.getElem?_cons_succ]; rfl)
      case hqc6 => exact fun _ _ _ h => h
      case hwc6 => rfl
      case hhc6 => (intro w hSw; (try dsimp only at hSw); go_simp; try with_reducible rfl)
      try simp only [Act.put, List.setIfInBounds_toArray, List.set_cons_zero, List.set_cons_succ]
      refine wpAnyH_take (i := 7) (oi := ?ooc7) (v := ?vvc7) ?hic7 (by kernel_rfl) (by kernel_rfl) (by kernel_rfl) ?hqc7 (Or.inl ⟨?hwc7, ?hhc7⟩) hHeld ?rrc7
      case hic7 => (simp only [List.getElem?_toArray, List.getElem?_cons_zero, List.getElem?_cons_succ]; rfl)
      case hqc7 => exact fun _ _ _ h => h
      case hwc7 => rfl
      case hhc7 => (intro w hSw; (try dsimp only at hSw); go_simp; try with_reducible rfl)
      try simp only [Act.put, List.setIfInBounds_toArray, List.set_cons_zero, List.set_cons_succ]
      refine wpAnyH_take (i := 8) (oi := ?ooc8) (v := ?vvc8) ?hic8 (by kernel_rfl) (by kernel_rfl) (by kernel_rfl) ?hqc8 (Or.inl ⟨?hwc8, ?hhc8⟩) hHeld ?rrc8
      case hic8 => (simp only [List.getElem?_toArray, List.getElem?_cons_zero, List.getElem?_cons_succ]; rfl)
      case hqc8 => exact fun _ _ _ h => h
      case hwc8 => rfl
      case hhc8 => (intro w hSw; (try dsimp only at hSw); go_simp; try with_reducible rfl)
      try simp only [Act.put, List.setIfInBounds_toArray, List.set_cons_zero, List.set_cons_succ]
      refine wpAnyH_take (i := 9) (oi := ?ooc9) (v := ?vvc9) ?hic9 (by kernel_rfl) (by kernel_rfl) (by kernel_rfl) ?hqc9 (Or.inl ⟨?hwc9, ?hhc9⟩) hHeld ?rrc9
      case hic9 => (simp only [List.getElem?_toArray, List.getElem?_cons_zero, List.getElem?_cons_succ]; rfl)
      case hqc9 => exact fun _ _ _ h => h
      case hwc9 => rfl
      case hhc9 => (intro w hSw; (try dsimp only at hSw); go_simp; try with_reducible rfl)
      try simp only [Act.put, List.setIfInBounds_toArray, List.set_cons_zero, List.set_cons_succ]
      refine wpAnyH_take (i := 10) (oi := ?ooc10) (v := ?vvc10) ?hic10 (by kernel_rfl) (by kernel_rfl) (by kernel_rfl) ?hqc10 (Or.inl ⟨?hwc10, ?hhc10⟩) hHeld ?rrc10
      case hic10 => (simp only [List.getElem?_toArray, List.getElem?_cons_zero, List.getElem?_cons_succ]; rfl)
      case hqc10 => exact fun _ _ _ h => h
      case hwc10 => rfl
      case hhc10 => (intro w hSw; (try dsimp only at hSw); go_simp; try with_reducible rfl)
      try simp only [Act.put, List.setIfInBounds_toArray, List.set_cons_zero, List.set_cons_succ]
      refine wpAnyH_take (i := 11) (oi := ?ooc11) (v := ?vvc11) ?hic11 (by kernel_rfl) (by kernel_rfl) (by kernel_rfl) ?hqc11 (Or.inl ⟨?hwc11, ?hhc11⟩) hHeld ?rrc11
      case hic11 => (simp only [List.getElem?_toArray, List.getElem?_cons_zero, List.getElem?_cons_succ]; rfl)
      case hqc11 => exact fun _ _ _ h => h
      case hwc11 => rfl
      case hhc11 => (intro w hSw; (try dsimp only at hSw); go_simp; try with_reducible rfl)
      try simp only [Act.put, List.setIfInBounds_toArray, List.set_cons_zero, List.set_cons_succ]
      refine wpAnyH_take (i := 12) (oi := ?ooc12) (v := ?vvc12) ?hic12 (by kernel_rfl) (by kernel_rfl) (by kernel_rfl) ?hqc12 (Or.inl ⟨?hwc12, ?hhc12⟩) hHeld ?rrc12
      case hic12 => (simp only [List.getElem?_toArray, List.getElem?_cons_zero, List.getElem?_cons_succ]; rfl)
      case hqc12 => exact fun _ _ _ h => h
      case hwc12 => rfl
      case hhc12 => (intro w hSw; (try dsimp only at hSw); go_simp; try with_reducible rfl)
      try simp only [Act.put, List.setIfInBounds_toArray, List.set_cons_zero, List.set_cons_succ]
      refine wpAnyH_take (i := 13) (oi := ?ooc13) (v := ?vvc13) ?hic13 (by kernel_rfl) (by kernel_rfl) (by kernel_rfl) ?hqc13 (Or.inl ⟨?hwc13, ?hhc13⟩) hHeld ?rrc13
      case hic13 => (simp only [List.getElem?_toArray, List.getElem?_cons_zero, List.getElem?_cons_succ]; rfl)
      case hqc13 => exact fun _ _ _ h => h
      case hwc13 => rfl
      case hhc13 => (intro w hSw; (try dsimp only at hSw); go_simp; try with_reducible rfl)
      try simp only [Act.put, List.setIfInBounds_toArray, List.set_cons_zero, List.set_cons_succ]
      refine wpAnyH_take (i := 14) (oi := ?ooc14) (v := ?vvc14) ?hic14 (by kernel_rfl) (by kernel_rfl) (by kernel_rfl) ?hqc14 (Or.inl ⟨?hwc14, ?hhc14⟩) hHeld ?rrc14
      case hic14 => (simp only [List.getElem?_toArray, List.getElem?_cons_zero, List.getElem?_cons_succ]; rfl)
      case hqc14 => exact fun _ _ _ h => h
      case hwc14 => rfl
      case hhc14 => (intro w hSw; (try dsimp only at hSw); go_simp; try with_reducible rfl)
      try simp only [Act.put, List.setIfInBounds_toArray, List.set_cons_zero, List.set_cons_succ]
      refine wpAnyH_done (by kernel_rfl) ?_ _
      go_wp2_with (at_builtin; refine wpList_app0 rfl (.tmp 21) (.tmp 22) 62 rfl rfl _ _ _ _ rfl rfl hE.out ?_)
      apply cutG
      · intro key
        go_region
        all_goals exact key
      · go_wp2_with fail
        go_ret
        exact ⟨_, rfl, HFIN.out⟩
    · have b2 : ((xk : Int) == rk) = false := beq_eq_false_iff_ne.2 (by omega)
      rw [if_neg hk]
      clear h hs hr hk HCC HRR hnm'
      go_enter Tryz.func122, Tryz.ntmps122
      go_wp2_with fail
      refine wp_region_held_drew (S := fun W => W.cell? ⟨g, m * 3 + 2, none⟩ = some (.int .i64 xk) ∧ W.cell? ⟨w.heap.size, 2, none⟩ = some (.int .i64 rk)) (by kernel_rfl) (hY) (fun hHeld => ?_)
      refine wpAnyH_take (i := 0) (oi := ?oob0) (v := ?vvb0) ?hib0 (by kernel_rfl) (by kernel_rfl) (by kernel_rfl) ?hqb0 (Or.inl ⟨?hwb0, ?hhb0⟩) hHeld ?rrb0
      case hib0 => (simp only [List.getElem?_toArray, List.getElem?_cons_zero, List.getElem?_cons_succ]; rfl)
      case hqb0 => exact fun _ _ _ h => h
      case hwb0 => rfl
      case hhb0 => (intro w hSw; (try dsimp only at hSw); go_simp; try with_reducible rfl)
      try simp only [Act.put, List.setIfInBounds_toArray, List.set_cons_zero, List.set_cons_succ]
      refine wpAnyH_take (i := 1) (oi := ?oob1) (v := ?vvb1) ?hib1 (by kernel_rfl) (by kernel_rfl) (by kernel_rfl) ?hqb1 (Or.inl ⟨?hwb1, ?hhb1⟩) hHeld ?rrb1
      case hib1 => (simp only [List.getElem?_toArray, List.getElem?_cons_zero, List.getElem?_cons_succ]; rfl)
      case hqb1 => exact fun _ _ _ h => h
      case hwb1 => rfl
      case hhb1 => (intro w hSw; (try dsimp only at hSw); go_simp; try with_reducible rfl)
      try simp only [Act.put, List.setIfInBounds_toArray, List.set_cons_zero, List.set_cons_succ]
      refine wpAnyH_take (i := 2) (oi := ?oob2) (v := ?vvb2) ?hib2 (by kernel_rfl) (by kernel_rfl) (by kernel_rfl) ?hqb2 (Or.inl ⟨?hwb2, ?hhb2⟩) hHeld ?rrb2
      case hib2 => (simp only [List.getElem?_toArray, List.getElem?_cons_zero, List.getElem?_cons_succ]; rfl)
      case hqb2 => exact fun _ _ _ h => h
      case hwb2 => rfl
      case hhb2 => (intro w hSw; (try dsimp only at hSw); go_simp; try with_reducible rfl)
      try simp only [Act.put, List.setIfInBounds_toArray, List.set_cons_zero, List.set_cons_succ]
      refine wpAnyH_take (i := 3) (oi := ?oob3) (v := ?vvb3) ?hib3 (by kernel_rfl) (by kernel_rfl) (by kernel_rfl) ?hqb3 (Or.inl ⟨?hwb3, ?hhb3⟩) hHeld ?rrb3
      case hib3 => (simp only [List.getElem?_toArray, List.getElem?_cons_zero, List.getElem?_cons_succ]; rfl)
      case hqb3 => exact fun _ _ _ h => h
      case hwb3 => rfl
      case hhb3 => (intro w hSw; (try dsimp only at hSw); go_simp; try with_reducible rfl)
      try simp only [Act.put, List.setIfInBounds_toArray, List.set_cons_zero, List.set_cons_succ]
      refine wpAnyH_take (i := 4) (oi := ?oob4) (v := ?vvb4) ?hib4 (by kernel_rfl) (by kernel_rfl) (by kernel_rfl) ?hqb4 (Or.inl ⟨?hwb4, ?hhb4⟩) hHeld ?rrb4
      case hib4 => (simp only [List.getElem?_toArray, List.getElem?_cons_zero, List.getElem?_cons_succ]; rfl)
      case hqb4 => exact fun _ _ _ h => h
      case hwb4 => rfl
      case hhb4 => (intro w hSw; (try dsimp only at hSw); go_simp; try with_reducible rfl)
      try simp only [Act.put, List.setIfInBounds_toArray, List.set_cons_zero, List.set_cons_succ]
      refine wpAnyH_take (i := 5) (oi := ?oob5) (v := ?vvb5) ?hib5 (by kernel_rfl) (by kernel_rfl) (by kernel_rfl) ?hqb5 (Or.inl ⟨?hwb5, ?hhb5⟩) hHeld ?rrb5
      case hib5 => (simp only [List.getElem?_toArray, List.getElem?_cons_zero, List.getElem?_cons_succ]; rfl)
      case hqb5 => exact fun _ _ _ h => h
      case hwb5 => rfl
      case hhb5 => (intro w hSw; (try dsimp only at hSw); go_simp; try with_reducible rfl)
      try simp only [Act.put, List.setIfInBounds_toArray, List.set_cons_zero, List.set_cons_succ]
      refine wpAnyH_take (i := 6) (oi := ?oob6) (v := ?vvb6) ?hib6 (by kernel_rfl) (by kernel_rfl) (by kernel_rfl) ?hqb6 (Or.inl ⟨?hwb6, ?hhb6⟩) hHeld ?rrb6
      case hib6 => (simp only [List.getElem?_toArray, List.getElem?_cons_zero, List.getElem?_cons_succ]; rfl)
      case hqb6 => exact fun _ _ _ h => h
      case hwb6 => rfl
      case hhb6 => (intro w hSw; (try dsimp only at hSw); go_simp; try with_reducible rfl)
      try simp only [Act.put, List.setIfInBounds_toArray, List.set_cons_zero, List.set_cons_succ]
      refine wpAnyH_take (i := 7) (oi := ?oob7) (v := ?vvb7) ?hib7 (by kernel_rfl) (by kernel_rfl) (by kernel_rfl) ?hqb7 (Or.inl ⟨?hwb7, ?hhb7⟩) hHeld ?rrb7
      case hib7 => (simp only [List.getElem?_toArray, List.getElem?_cons_zero, List.getElem?_cons_succ]; rfl)
      case hqb7 => exact fun _ _ _ h => h
      case hwb7 => rfl
      case hhb7 => (intro w hSw; (try dsimp only at hSw); go_simp; try with_reducible rfl)
      try simp only [Act.put, List.setIfInBounds_toArray, List.set_cons_zero, List.set_cons_succ]
      refine wpAnyH_take (i := 8) (oi := ?oob8) (v := ?vvb8) ?hib8 (by kernel_rfl) (by kernel_rfl) (by kernel_rfl) ?hqb8 (Or.inl ⟨?hwb8, ?hhb8⟩) hHeld ?rrb8
      case hib8 => (simp only [List.getElem?_toArray, List.getElem?_cons_zero, List.getElem?_cons_succ]; rfl)
      case hqb8 => exact fun _ _ _ h => h
      case hwb8 => rfl
      case hhb8 => (intro w hSw; (try dsimp only at hSw); go_simp; try with_reducible rfl)
      try simp only [Act.put, List.setIfInBounds_toArray, List.set_cons_zero, List.set_cons_succ]
      refine wpAnyH_take (i := 9) (oi := ?oob9) (v := ?vvb9) ?hib9 (by kernel_rfl) (by kernel_rfl) (by kernel_rfl) ?hqb9 (Or.inl ⟨?hwb9, ?hhb9⟩) hHeld ?rrb9
      case hib9 => (simp only [List.getElem?_toArray, List.getElem?_cons_zero, List.getElem?_cons_succ]; rfl)
      case hqb9 => exact fun _ _ _ h => h
      case hwb9 => rfl
      case hhb9 => (intro w hSw; (try dsimp only at hSw); go_simp; try with_reducible rfl)
      try simp only [Act.put, List.setIfInBounds_toArray, List.set_cons_zero, List.set_cons_succ]
      refine wpAnyH_take (i := 10) (oi := ?oob10) (v := ?vvb10) ?hib10 (by kernel_rfl) (by kernel_rfl) (by kernel_rfl) ?hqb10 (Or.inl ⟨?hwb10, ?hhb10⟩) hHeld ?rrb10
      case hib10 => (simp only [List.getElem?_toArray, List.getElem?_cons_zero, List.getElem?_cons_succ]; rfl)
      case hqb10 => exact fun _ _ _ h => h
      case hwb10 => rfl
      case hhb10 => (intro w hSw; (try dsimp only at hSw); go_simp; try with_reducible rfl)
      try simp only [Act.put, List.setIfInBounds_toArray, List.set_cons_zero, List.set_cons_succ]
      refine wpAnyH_take (i := 11) (oi := ?oob11) (v := ?vvb11) ?hib11 (by kernel_rfl) (by kernel_rfl) (by kernel_rfl) ?hqb11 (Or.inl ⟨?hwb11, ?hhb11⟩) hHeld ?rrb11
      case hib11 => (simp only [List.getElem?_toArray, List.getElem?_cons_zero, List.getElem?_cons_succ]; rfl)
      case hqb11 => exact fun _ _ _ h => h
      case hwb11 => rfl
      case hhb11 => (intro w hSw; (try dsimp only at hSw); go_simp; try with_reducible rfl)
      try simp only [Act.put, List.setIfInBounds_toArray, List.set_cons_zero, List.set_cons_succ]
      refine wpAnyH_take (i := 12) (oi := ?oob12) (v := ?vvb12) ?hib12 (by kernel_rfl) (by kernel_rfl) (by kernel_rfl) ?hqb12 (Or.inl ⟨?hwb12, ?hhb12⟩) hHeld ?rrb12
      case hib12 => (simp only [List.getElem?_toArray, List.getElem?_cons_zero, List.getElem?_cons_succ]; rfl)
      case hqb12 => exact fun _ _ _ h => h
      case hwb12 => rfl
      case hhb12 => (intro w hSw; (try dsimp only at hSw); go_simp; try with_reducible rfl)
      try simp only [Act.put, List.setIfInBounds_toArray, List.set_cons_zero, List.set_cons_succ]
      refine wpAnyH_take (i := 13) (oi := ?oob13) (v := ?vvb13) ?hib13 (by kernel_rfl) (by kernel_rfl) (by kernel_rfl) ?hqb13 (Or.inl ⟨?hwb13, ?hhb13⟩) hHeld ?rrb13
      case hib13 => (simp only [List.getElem?_toArray, List.getElem?_cons_zero, List.getElem?_cons_succ]; rfl)
      case hqb13 => exact fun _ _ _ h => h
      case hwb13 => rfl
      case hhb13 => (intro w hSw; (try dsimp only at hSw); go_simp; try with_reducible rfl)
      try simp only [Act.put, List.setIfInBounds_toArray, List.set_cons_zero, List.set_cons_succ]
      refine wpAnyH_take (i := 14) (oi := ?oob14) (v := ?vvb14) ?hib14 (by kernel_rfl) (by kernel_rfl) (by kernel_rfl) ?hqb14 (Or.inl ⟨?hwb14, ?hhb14⟩) hHeld ?rrb14
      case hib14 => (simp only [List.getElem?_toArray, List.getElem?_cons_zero, List.getElem?_cons_succ]; rfl)
      case hqb14 => exact fun _ _ _ h => h
      case hwb14 => rfl
      case hhb14 => (intro w hSw; (try dsimp only at hSw); go_simp; try with_reducible rfl)
      try simp only [Act.put, List.setIfInBounds_toArray, List.set_cons_zero, List.set_cons_succ]
      refine wpAnyH_done (by kernel_rfl) ?_ _
      go_wp2_with (at_builtin; refine wpList_appR rfl _ _ rfl rfl base _ L rfl HK0.out _ (ra, rl, rk) rfl HB2.out (by omega) (by simp; omega) ?_; intro v1 W1 hO1 hg1 hob1)
      have HF := Lib.hid (HT.out _ hg1)
      have HO1 := Lib.hid hO1
      clear hO1 hg1 hob1
      go_wp2_with fail
      go_ret
      exact ⟨_, rfl, HO1.out, HF.out⟩
end Go.Proofs.YtkapkbiccppldaaGreatDoor

/- The document's runs of slabs, whole. -/
namespace Go.Proofs.YtkapkbiccppldaaGreatDoor
set_option linter.unusedVariables false
set_option linter.unusedSimpArgs false
open Go.RowKit

theorem RowR.pre {w : World} {g cap : Nat} {l m : List Rn} (h : RowR w g cap (l ++ m)) : RowR w g cap l := by
  obtain ⟨cur, hb, h1, h2, h3, h4⟩ := h
  rw [List.length_append] at h2 h4
  refine ⟨cur, hb, h1, by omega, h3, ?_⟩
  rw [rCells_app] at h4
  have : cur.toList.take (l.length * 3) = ((rCells l ++ rCells m)).take (l.length * 3) := by
    rw [← h4, List.take_take, Nat.min_eq_left (by omega)]
  rw [this, List.take_append_of_le_length (by rw [rCells_len]; omega), List.take_of_length_le (by rw [rCells_len]; omega)]
theorem foldR_lenR : ∀ (p l : List Rn), lenR (p.foldl withR l) = lenR l + lenR p
  | [], l => by simp [lenR]
  | r :: p, l => by
    rw [List.foldl_cons, foldR_lenR p, withR_lenR]
    simp [lenR]
    omega
theorem blks_lenR (b : Nat) (S : SS) (i k : Nat) : lenR ((List.range k).map (blkR b S i)) = csz (S.cls i) * k := by
  induction k with
  | zero => rfl
  | succ k ih => rw [List.range_succ, List.map_append, lenR_app, ih, Nat.mul_succ]; simp [lenR, blkR]
theorem slab_lenR (b : Nat) (S : SS) (i : Nat) (h9 : S.cls i ≤ 9) : lenR (slabR b S i) = 1024 ∧ (slabR b S i).length ≤ 33 := by
  unfold slabR
  by_cases h0 : S.cls i = 0
  · rw [if_pos h0]; simp [lenR]
  · obtain ⟨c1, c2, c3, c4, c5, c6, c7⟩ := csz_tab (S.cls i) (by omega) h9
    rw [if_neg h0, lenR_app, blks_lenR]
    unfold padR
    split
    · simp [lenR]; omega
    · simp [lenR]; omega
theorem all_lenR (b : Nat) (S : SS) : ∀ n, (∀ i, i < n → S.cls i ≤ 9) → lenR (allR b S n) = 1024 * n ∧ (allR b S n).length ≤ 33 * n
  | 0, _ => by simp [allR, lenR]
  | n + 1, h => by
    obtain ⟨h1, h2⟩ := all_lenR b S n (fun i hi => h i (by omega))
    obtain ⟨h3, h4⟩ := slab_lenR b S n (h n (by omega))
    unfold allR
    rw [lenR_app, List.length_append]
    omega
theorem rrun5_lenR {a s : Nat} (h : Cfg a s) : lenR (rrun5 a s) = lbase a s ∧ (rrun5 a s).length ≤ 5 := by
  obtain ⟨z1, z2, z3, z4, z5, z6, z7⟩ := cfg_sizes h
  unfold rrun5 rrun4 rrun3 rpad
  split
  · simp [lenR]; omega
  · simp [lenR]; omega
/-- Runs as far as a slab, as far as a block. -/
def accR (a s : Nat) (S : SS) (i : Nat) : List Rn := (allR (lbase a s) S i).foldl withR (rrun5 a s)
def accB (a s : Nat) (S : SS) (i k : Nat) : List Rn := ((List.range k).map (blkR (lbase a s) S i)).foldl withR (accR a s S i)
theorem accR_succ (a s : Nat) (S : SS) (i : Nat) : accR a s S (i + 1) = (slabR (lbase a s) S i).foldl withR (accR a s S i) := by
  unfold accR
  rw [show allR (lbase a s) S (i + 1) = allR (lbase a s) S i ++ slabR (lbase a s) S i from rfl, List.foldl_append]
theorem accB_succ (a s : Nat) (S : SS) (i k : Nat) : accB a s S i (k + 1) = withR (accB a s S i k) (blkR (lbase a s) S i k) := by
  unfold accB
  rw [List.range_succ, List.map_append, List.foldl_append]
  rfl
theorem acc_lim {a s : Nat} (h : Cfg a s) (S : SS) (h9 : ∀ i, i < a → S.cls i ≤ 9) {i : Nat} (hi : i < a) : (accR a s S i).length ≤ 2200 ∧ lenR (accR a s S i) + 1024 ≤ 1048576 ∧
    ∀ k, k ≤ nbk (S.cls i) → (accB a s S i k).length ≤ 2300 ∧ lenR (accB a s S i k) = lenR (accR a s S i) + csz (S.cls i) * k := by
  obtain ⟨r1, r2⟩ := rrun5_lenR h
  obtain ⟨l1, l2⟩ := all_lenR (lbase a s) S i (fun j hj => h9 j (by omega))
  have f1 := foldR_len (allR (lbase a s) S i) (rrun5 a s)
  have f2 := foldR_lenR (allR (lbase a s) S i) (rrun5 a s)
  have ha := h.a2
  obtain ⟨z1, z2, z3, z4, z5, z6, z7⟩ := cfg_sizes h
  obtain ⟨c1, c2, c3, c4, c5⟩ := h
  refine ⟨by unfold accR; omega, by unfold accR; unfold lbase at *; omega, fun k hk => ?_⟩
  have g1 := foldR_len ((List.range k).map (blkR (lbase a s) S i)) (accR a s S i)
  have g2 := foldR_lenR ((List.range k).map (blkR (lbase a s) S i)) (accR a s S i)
  rw [blks_lenR] at g2
  have hn := (csz_mul (S.cls i) (h9 i hi)).2.2
  simp at g1
  refine ⟨?_, g2⟩
  unfold accB
  have : (accR a s S i).length ≤ 2200 := by unfold accR; omega
  omega
theorem xpad8 {w : World} (c : Nat) (hc : 1 ≤ c ∧ c ≤ 9) : Calls Tryz.prog 123 #[.int .i64 c] w fun e w' => e = .returned (.int .i64 (cpad c)) ∧ w' = w := by
  have h1 := fun W => xsize8 (w := W) c
  have h2 := fun W => xblocks8 (w := W) c
  rw [cszZ_nat c hc.2] at h1
  rw [nbkZ_nat c hc.2] at h2
  obtain ⟨c1, c2, c3, c4, c5, c6, c7⟩ := csz_tab c hc.1 hc.2
  have b0 : ((csz c : Int) == 0) = false := beq_eq_false_iff_ne.2 (by omega)
  have e : IntKind.i64.wrap ((nbk c : Int) * (csz c : Int)) = ((csz c * nbk c : Nat) : Int) := by
    rw [Int.mul_comm, ← Int.natCast_mul]
    exact IntWalk.i64_in _ (by omega)
  have e2 : IntKind.i64.wrap (1024 - ((csz c * nbk c : Nat) : Int)) = (cpad c : Int) := by
    rw [IntWalk.i64_in _ (by omega)]
    omega
  generalize csz c * nbk c = z at *
  generalize csz c = x at *
  generalize nbk c = y at *
  generalize cpad c = u at *
  clear c1 c2 c3 c4 c5 c6 c7 hc
  go_enter Tryz.func123, Tryz.ntmps123
  go_wp2_with fail
  with_reducible refine (h1 _).mono ?_
  rintro e w1 ⟨rfl, rfl⟩
  go_wp2_with fail
  with_reducible refine (h2 _).mono ?_
  rintro e w1 ⟨rfl, rfl⟩
  go_wp2_with fail
  with_reducible refine (h1 _).mono ?_
  rintro e w1 ⟨rfl, rfl⟩
  go_wp2_with fail
  go_ret
  exact ⟨rfl, rfl⟩
set_option maxRecDepth 100000 in
set_option maxHeartbeats 4000000 in
theorem xruns15 {w : World} {p gl a s : Nat} {B : List Nat} {S : SS} (h : RS w p gl a s B S) (hl : ∀ i, i < a → (S.lv i).length ≤ 1000) (h9 : ∀ i, i < a → S.cls i ≤ 9)
    (hIS : ∀ i k, i < a → S.cls i ≠ 0 → k < nbk (S.cls i) → isS a S (adrB (lbase a s) i (S.cls i) k : Nat) = decide (adrB (lbase a s) i (S.cls i) k ∈ S.lv i)) :
    Calls Tryz.prog 38 #[.pointer (some ⟨p, 0, none⟩)] w fun e w' => ∃ v, e = .returned v ∧ OwnR w' w.heap.size v (accR a s S a) ∧ Fr [] w w' := by
  have hr9 := xruns9 (w := w) a s h.cfg
  have HSA := Lib.hid (fun W i (hi : i < a) => xslabat9 (w := W) a s i h.cfg hi)
  have HLM := Lib.hid (fun i (hi : i < a) => acc_lim h.cfg S h9 hi)
  have H0 := Lib.hid h
  have HX := Lib.hid (fun W (hf : Fr [] w W) x => xIs (h.fr0 hf) hl x)
  have hcfg := h.cfg
  have hbl : lbase a s + 1024 * a ≤ 1048576 := by
    obtain ⟨c1, c2, c3, c4, c5⟩ := hcfg
    unfold lbase; omega
  have ha := hcfg.a2
  obtain ⟨p0, p1, p2⟩ := (show w.cell? ⟨p, 0, none⟩ = some (.int .i64 a) ∧ w.cell? ⟨p, 1, none⟩ = some (.int .i64 s) ∧ w.cell? ⟨p, 2, none⟩ = some (.slice (some ⟨gl, 0, none⟩) a a) from ⟨h.st.cell 0, h.st.cell 1, h.st.cell 2⟩)
  have H9 := Lib.hid h9
  have HIS := Lib.hid hIS
  have hr5 := rrun5_lenR hcfg
  clear h hcfg h9 hIS
  go_enter Tryz.func38, Tryz.ntmps38
  go_wp2_with fail
  with_reducible refine hr9.mono ?_
  rintro e w1 ⟨v, rfl, ho, f1⟩
  have hlr : (rruns a s).length = (rrun5 a s).length + 1 := by unfold rruns; simp
  obtain ⟨g, cap, rfl, hg, hr⟩ := ho.rowR (by omega)
  have hr' : RowR w1 g cap (rrun5 a s) := by unfold rruns at hr; exact hr.pre
  have f2 : Fr [] w (w1.alloc (.cells #[] 98)) := f1.alloc _
  have ho0 : OwnR (w1.alloc (.cells #[] 98)) w.heap.size (.slice (some ⟨w1.heap.size, 0, none⟩) 0 0) [] := ownR_base f1.size (ownR0 w1)
  obtain ⟨v2, w2, E1, ho2, hg2⟩ := run_appRR _ _ _ [] ho0 g cap (rrun5 a s) (hr'.fr ((Fr.refl [] w1).alloc _) (by simp)) _ rfl cap (by simp; omega) f2.size
  rw [List.nil_append] at ho2
  have f3 : Fr [] w w2 := own_fr ho0 hg2 f2 (Nat.le_refl _)
  have hle := hr.le
  rw [hlr] at hle ⊢
  have HO2 := Lib.hid (show OwnR w2 w.heap.size v2 (accR a s S 0) from ho2)
  have F3 := Lib.hid f3
  have hE := Lib.hid E1
  have F1 := Lib.hid f1
  generalize hn5 : (rrun5 a s).length = n5 at *
  have wl : IntKind.i64.wrap (((n5 + 1 : Nat) : Int) - 1) = (n5 : Int) := by rw [IntWalk.i64_in _ (by omega)]; omega
  generalize hn6 : n5 + 1 = n6 at *
  have m0 : (0 : Int) ≤ n5 := by omega
  have m1 : (n5 : Int) ≤ cap := by omega
  have m1' : n5 ≤ cap := by omega
  clear ho hr hr' f1 f2 f3 ho0 E1 ho2 hg2 hr9 p0 p1 p2
  go_wp2_with (at_builtin; refine wpList_app0 rfl (.tmp 16) (.tmp 21) 62 rfl rfl _ _ _ _ rfl rfl hE.out ?_)
  have HP := Lib.hid (fun W (hf : Fr [] w W) => (show W.cell? ⟨p, 0, none⟩ = some (.int .i64 a) ∧ W.cell? ⟨p, 1, none⟩ = some (.int .i64 s) ∧ W.cell? ⟨p, 2, none⟩ = some (.slice (some ⟨gl, 0, none⟩) a a) from ⟨(H0.out.fr0 hf).st.cell 0, (H0.out.fr0 hf).st.cell 1, (H0.out.fr0 hf).st.cell 2⟩))
  clear wl hn6 hlr hle m0 m1 m1' hr5 hn5 hE
  go_loopw [3, 4] (fun v i W => ∃ (j : Nat) (u : Value), u = v ∧ j ≤ a ∧ i = .int .i64 j ∧ Fr [] w W ∧ OwnR W w.heap.size u (accR a s S j)) (fun _ i _ => a - (intOf i).toNat)
  case atStart => exact ⟨0, _, rfl, by omega, rfl, F3.out, HO2.out⟩
  case round =>
    clear HO2 F3 F1
    obtain ⟨j, u, rfl, hj, rfl, hF, hO⟩ := hrel
    have F4 := Lib.hid hF
    have HO := Lib.hid hO
    have j0 : (0 : Int) ≤ j := by omega
    obtain ⟨p0, p1, p2⟩ := HP.out _ hF
    clear hF hO
    by_cases hja : j < a
    · obtain ⟨df, cf, dl, cl, rF, rL, hc⟩ := H0.out.rowi j hja
      have q0 := (hc _ F4.out).1
      have HC0 := Lib.hid (fun W (hf : Fr [] w W) => (hc W hf).1)
      clear rF rL hc q0
      have j1 : (j : Int) < a := by omega
      have b1 : decide ((j : Int) < a) = true := by simp; omega
      have b1' : decide (j < a) = true := by simp; omega
      have wj : IntKind.i64.wrap ((j : Int) + 1) = (j : Int) + 1 := IntWalk.i64_in _ (by omega)
      have hsa := HSA.out wr j hja
      obtain ⟨hlm1, hlm2, hlm3⟩ := HLM.out j hja
      have h9j := H9.out j hja
      have hbj : lbase a s + 1024 * j + 1024 ≤ 1048576 := by omega
      have hsucc := accR_succ a s S j
      have hbase := F4.out.size
      go_wp2_with fail
      with_reducible refine hsa.mono ?_
      rintro e w3 ⟨rfl, f3⟩
      have F5 := Lib.hid (F4.out.trans f3)
      have HO5 := Lib.hid (show OwnR w3 w.heap.size u (accR a s S j) from own_keep HO.out f3)
      obtain ⟨p3, p4, p5⟩ := HP.out _ F5.out
      have q0 := HC0.out _ F5.out
      have hb5 := F5.out.size
      clear hsa f3 HO F4 p0 p1 p2 hbase
      by_cases h0 : S.cls j = 0
      · have hs1 : slabR (lbase a s) S j = [(lbase a s + 1024 * j, 1024, 7)] := by unfold slabR; rw [if_pos h0]
        rw [hs1] at hsucc
        have HSU := Lib.hid (show accR a s S (j + 1) = withR (accR a s S j) (lbase a s + 1024 * j, 1024, 7) from hsucc)
        have hw := (show Calls Tryz.prog 122 #[u, .agg #[.int .i64 (lbase a s + 1024 * j : Nat), .int .i64 1024, .int .i64 7]] w3 _ from xwith HO5.out (lbase a s + 1024 * j, 1024, 7) (by omega) (by show lenR _ + 1024 ≤ _; omega) hb5)
        rw [h0] at q0
        clear h0 hs1 hsucc hlm3
        generalize lbase a s + 1024 * j = bj at *
        go_wp2_with fail
        with_reducible refine hw.mono ?_
        rintro e w4 ⟨v4, rfl, ho4, f4⟩
        have HO6 := Lib.hid (show OwnR w4 w.heap.size v4 (accR a s S (j + 1)) from by rw [HSU.out]; exact ho4)
        have F6 := Lib.hid (show Fr [] w w4 from F5.out.step f4 (fun k hk => .inr (World.ownsRow.lt HO5.out k (ownS_mem hk)).1))
        clear ho4 f4 hw
        go_wp2_with fail
        go_roundw
        case rel => exact ⟨j + 1, v4, rfl, by omega, by go_num, F6.out, HO6.out⟩
        case measure => simp [intOf]; omega
      · obtain ⟨c1, c2, c3, c4, c5, c6, c7⟩ := csz_tab (S.cls j) (by omega) h9j
        have b0 : ((S.cls j : Int) == 0) = false := beq_eq_false_iff_ne.2 (by omega)
        have hsz := fun W => xsize8 (w := W) (S.cls j : Int)
        have hbk := fun W => xblocks8 (w := W) (S.cls j : Int)
        rw [cszZ_nat _ h9j] at hsz
        rw [nbkZ_nat _ h9j] at hbk
        have hpd := fun W => xpad8 (w := W) (S.cls j) ⟨by omega, h9j⟩
        have HIj := Lib.hid (fun k hk => HIS.out j k hja h0 hk)
        have HSU := Lib.hid (show accR a s S (j + 1) = (padR (lbase a s) S j).foldl withR (accB a s S j (nbk (S.cls j))) from by
          rw [hsucc]
          unfold slabR accB
          rw [if_neg h0, List.foldl_append])
        have hpz := HSU.out
        unfold padR at hpz
        have HPZ := Lib.hid hpz
        have HBS := Lib.hid (fun k => accB_succ a s S j k)
        have HB0 := Lib.hid (show accB a s S j 0 = accR a s S j from rfl)
        have HAD := Lib.hid (fun k => (show blkR (lbase a s) S j k = (lbase a s + 1024 * j + csz (S.cls j) * k, csz (S.cls j), if adrB (lbase a s) j (S.cls j) k ∈ S.lv j then 5 else 6) from rfl))
        have hadr : ∀ k, adrB (lbase a s) j (S.cls j) k = lbase a s + 1024 * j + csz (S.cls j) * k := fun k => rfl
        have HLM3 := Lib.hid hlm3
        have HM := Lib.hid (fun k (hk : k < nbk (S.cls j)) => mul_apart (s := csz (S.cls j)) hk)
        clear hsucc hpz hlm3 h0
        have HADR := Lib.hid hadr
        clear hadr
        generalize S.cls j = c at *
        generalize hz : csz c = z at *
        generalize hnb : nbk c = nb at *
        generalize hcp : cpad c = cp at *
        generalize hbj' : lbase a s + 1024 * j = bj at *
        go_wp2_with fail
        with_reducible refine (hsz _).mono ?_
        rintro e w4 ⟨rfl, rfl⟩
        clear hsz p3 p4 p5 q0
        go_wp2_with fail
        go_loopw [3, 8] (fun v k W => ∃ (m : Nat) (x : Value), x = v ∧ m ≤ nb ∧ k = .int .i64 m ∧ Fr [] w W ∧ OwnR W w.heap.size x (accB a s S j m)) (fun _ k _ => nb - (intOf k).toNat)
        case atStart => exact ⟨0, _, rfl, by omega, rfl, F5.out, by rw [HB0.out]; exact HO5.out⟩
        case round =>
          clear HO5 F5
          obtain ⟨m, x, rfl, hm, rfl, hF, hO⟩ := hrel
          have F6 := Lib.hid hF
          have HO6 := Lib.hid hO
          have hb6 := hF.size
          clear hF hO
          have m0 : (0 : Int) ≤ m := by omega
          by_cases hmn : m < nb
          · have m1 : decide ((m : Int) < nb) = true := by simp; omega
            have m1' : decide (m < nb) = true := by simp; omega
            have wm : IntKind.i64.wrap ((m : Int) + 1) = (m : Int) + 1 := IntWalk.i64_in _ (by omega)
            have hma := HM.out m hmn
            have e1 : IntKind.i64.wrap ((m : Int) * (z : Int)) = ((z * m : Nat) : Int) := by
              rw [Int.mul_comm, ← Int.natCast_mul]
              exact IntWalk.i64_in _ (by omega)
            have e2 : IntKind.i64.wrap ((bj : Int) + ((z * m : Nat) : Int)) = ((bj + z * m : Nat) : Int) := by
              rw [← Int.natCast_add]
              exact IntWalk.i64_in _ (by omega)
            have hIS := HIj.out m hmn
            rw [HADR.out m] at hIS
            have hx := HX.out _ F6.out ((bj + z * m : Nat) : Int)
            rw [hIS] at hx
            obtain ⟨hlm4, hlm5⟩ := HLM3.out m (by omega)
            have hst := HBS.out m
            rw [HAD.out m, HADR.out m] at hst
            generalize hzm : z * m = zm at *
            generalize hadd : bj + zm = ad at *
            by_cases hmem : ad ∈ S.lv j
            · rw [if_pos hmem] at hst
              have hd : decide (ad ∈ S.lv j) = true := by simpa using hmem
              rw [hd] at hx
              have HST := Lib.hid hst
              clear hst hd hIS hmem
              go_wp2_with fail
              with_reducible refine (hbk _).mono ?_
              rintro e w5 ⟨rfl, rfl⟩
              go_wp2_with fail
              with_reducible refine hx.mono ?_
              rintro e w6 ⟨rfl, f6⟩
              have HO7 := Lib.hid (show OwnR w6 w.heap.size x (accB a s S j m) from own_keep HO6.out f6)
              have F7 := Lib.hid (F6.out.trans f6)
              have hw := (show Calls Tryz.prog 122 #[x, .agg #[.int .i64 (ad : Nat), .int .i64 (z : Nat), .int .i64 5]] w6 _ from xwith HO7.out (ad, z, 5) (by omega) (by show lenR _ + z ≤ _; omega) F7.out.size)
              clear hx f6 F6 HO6
              go_wp2_with fail
              with_reducible refine hw.mono ?_
              rintro e w7 ⟨v7, rfl, ho7, f7⟩
              have HO8 := Lib.hid (show OwnR w7 w.heap.size v7 (accB a s S j (m + 1)) from by rw [HST.out]; exact ho7)
              have F8 := Lib.hid (show Fr [] w w7 from F7.out.step f7 (fun k hk => .inr (World.ownsRow.lt HO7.out k (ownS_mem hk)).1))
              clear ho7 f7 hw
              go_wp2_with fail
              go_roundw
              case rel => exact ⟨m + 1, v7, rfl, by omega, by go_num, F8.out, HO8.out⟩
              case measure => simp [intOf]; omega
            · rw [if_neg hmem] at hst
              have hd : decide (ad ∈ S.lv j) = false := by simpa using hmem
              rw [hd] at hx
              have HST := Lib.hid hst
              clear hst hd hIS hmem
              go_wp2_with fail
              with_reducible refine (hbk _).mono ?_
              rintro e w5 ⟨rfl, rfl⟩
              go_wp2_with fail
              with_reducible refine hx.mono ?_
              rintro e w6 ⟨rfl, f6⟩
              have HO7 := Lib.hid (show OwnR w6 w.heap.size x (accB a s S j m) from own_keep HO6.out f6)
              have F7 := Lib.hid (F6.out.trans f6)
              have hw := (show Calls Tryz.prog 122 #[x, .agg #[.int .i64 (ad : Nat), .int .i64 (z : Nat), .int .i64 6]] w6 _ from xwith HO7.out (ad, z, 6) (by omega) (by show lenR _ + z ≤ _; omega) F7.out.size)
              clear hx f6 F6 HO6
              go_wp2_with fail
              with_reducible refine hw.mono ?_
              rintro e w7 ⟨v7, rfl, ho7, f7⟩
              have HO8 := Lib.hid (show OwnR w7 w.heap.size v7 (accB a s S j (m + 1)) from by rw [HST.out]; exact ho7)
              have F8 := Lib.hid (show Fr [] w w7 from F7.out.step f7 (fun k hk => .inr (World.ownsRow.lt HO7.out k (ownS_mem hk)).1))
              clear ho7 f7 hw
              go_wp2_with fail
              go_roundw
              case rel => exact ⟨m + 1, v7, rfl, by omega, by go_num, F8.out, HO8.out⟩
              case measure => simp [intOf]; omega
          · have em : m = nb := by omega
            have m1 : decide ((m : Int) < nb) = false := by simp; omega
            have m1' : decide (m < nb) = false := by simp; omega
            obtain ⟨hlm4, hlm5⟩ := HLM3.out nb (by omega)
            rw [em] at HO6
            by_cases hp : 0 < cp
            · have k1 : decide ((0 : Int) < cp) = true := by simp; omega
              have k1' : decide (0 < cp) = true := by simp; omega
              have e1 : IntKind.i64.wrap ((bj : Int) + 1024) = ((bj + 1024 : Nat) : Int) := IntWalk.i64_in _ (by omega)
              have e2 : IntKind.i64.wrap (((bj + 1024 : Nat) : Int) - (cp : Int)) = ((bj + 1024 - cp : Nat) : Int) := by
                rw [IntWalk.i64_in _ (by omega)]
                omega
              have hpz := HPZ.out
              rw [if_pos hp] at hpz
              have HPW := Lib.hid (show accR a s S (j + 1) = withR (accB a s S j nb) (bj + 1024 - cp, cp, 8) from hpz)
              clear hpz hmn hp em
              generalize hbe : bj + 1024 - cp = be at *
              generalize bj + 1024 = bf at *
              go_wp2_with fail
              with_reducible refine (hbk _).mono ?_
              rintro e w5 ⟨rfl, rfl⟩
              go_wp2_with fail
              with_reducible refine (hpd _).mono ?_
              rintro e w6 ⟨rfl, rfl⟩
              have hw := (show Calls Tryz.prog 122 #[x, .agg #[.int .i64 (be : Nat), .int .i64 (cp : Nat), .int .i64 8]] _ _ from xwith HO6.out (be, cp, 8) (by omega) (by show lenR _ + cp ≤ _; omega) F6.out.size)
              go_wp2_with fail
              with_reducible refine hw.mono ?_
              rintro e w7 ⟨v7, rfl, ho7, f7⟩
              have HO8 := Lib.hid (show OwnR w7 w.heap.size v7 (accR a s S (j + 1)) from by rw [HPW.out]; exact ho7)
              have F8 := Lib.hid (show Fr [] w w7 from F6.out.step f7 (fun k hk => .inr (World.ownsRow.lt HO6.out k (ownS_mem hk)).1))
              clear ho7 f7 hw
              go_wp2_with fail
              go_roundw
              case rel => exact ⟨j + 1, v7, rfl, by omega, by go_num, F8.out, HO8.out⟩
              case measure => simp [intOf]; omega
            · have k1 : decide ((0 : Int) < cp) = false := by simp; omega
              have k1' : decide (0 < cp) = false := by simp; omega
              have hpz := HPZ.out
              rw [if_neg hp] at hpz
              have HO8 := Lib.hid (show OwnR wr w.heap.size x (accR a s S (j + 1)) from by rw [show accR a s S (j + 1) = accB a s S j nb from hpz]; exact HO6.out)
              clear hpz hmn hp em
              go_wp2_with fail
              with_reducible refine (hbk _).mono ?_
              rintro e w5 ⟨rfl, rfl⟩
              go_wp2_with fail
              with_reducible refine (hpd _).mono ?_
              rintro e w6 ⟨rfl, rfl⟩
              go_wp2_with fail
              go_roundw
              case rel => exact ⟨j + 1, x, rfl, by omega, by go_num, F6.out, HO8.out⟩
              case measure => simp [intOf]; omega
    · obtain rfl : j = a := by omega
      have b1 : decide ((j : Int) < j) = false := by simp
      have b1' : decide (j < j) = false := by simp
      go_wp2_with fail
      go_ret
      exact ⟨_, rfl, HO.out, F4.out⟩
end Go.Proofs.YtkapkbiccppldaaGreatDoor

/- law15: the memory, the document's slabs and a row of places together. -/
namespace Go.Proofs.YtkapkbiccppldaaGreatDoor
set_option linter.unusedVariables false
set_option linter.unusedSimpArgs false
open Go.RowKit

structure KD (w0 : World) (base : Nat) (q : MH) (p gl a s : Nat) (S1 S2 : SS) (v : Value) (L : List Nat) (W : World) : Prop where
  m : M15 w0 q a s S1 W
  r : ∃ B, RS W p gl a s B S2 ∧ (∀ k ∈ q.blocks, k ∉ B) ∧ (∀ k ∈ B, w0.heap.size ≤ k) ∧ ∀ k, v.ownBlock = some k → k ∉ B
  g : 5 ≤ w0.heap.size
  o : Rw W base v L
  qb : ∀ k ∈ q.blocks, k < base
  gb : gl < base
  wb : w0.heap.size ≤ base
  bs : base ≤ W.heap.size
section
variable {w0 W : World} {base : Nat} {q : MH} {p gl a s : Nat} {S1 S2 S3 : SS} {v : Value} {L : List Nat}
theorem KD.k (h : KD w0 base q p gl a s S1 S2 v L W) : K15 w0 q p gl a s S1 S2 W := by
  obtain ⟨B, h1, h2, h3, _⟩ := h.r
  exact ⟨h.m, ⟨B, h1, h2, h3⟩, h.g⟩
theorem KD.start (h : K15 w0 q p gl a s S1 S2 W) : KD w0 W.heap.size q p gl a s S1 S2 (.slice none 0 0) [] W := by
  obtain ⟨B, h1, h2, h3⟩ := h.r
  exact ⟨h.m, ⟨B, h1, h2, h3, fun _ h => by cases h⟩, h.g, Rw.nil _ _, h.m.lt, h1.lt _ h1.hg, h.m.f.size, Nat.le_refl _⟩
theorem KD.fr0 {W' : World} (h : KD w0 base q p gl a s S1 S2 v L W) (hf : Fr [] W W') : KD w0 base q p gl a s S1 S2 v L W' := by
  obtain ⟨B, h1, h2, h3, h4⟩ := h.r
  exact ⟨h.m.fr0 hf, ⟨B, h1.fr0 hf, h2, h3, h4⟩, h.g, h.o.fr0 hf, h.qb, h.gb, h.wb, Nat.le_trans h.bs hf.size⟩
theorem KD.step {W' : World} (h : KD w0 base q p gl a s S1 S2 v L W) (hm : M15 w0 q a s S3 W') (hf : Fr q.blocks W W') : KD w0 base q p gl a s S3 S2 v L W' := by
  obtain ⟨B, h1, h2, h3, h4⟩ := h.r
  exact ⟨hm, ⟨B, h1.fr hf h2, h2, h3, h4⟩, h.g, h.o.frq hf h.qb, h.qb, h.gb, h.wb, Nat.le_trans h.bs hf.size⟩
theorem KD.rx {W' : World} (h : KD w0 base q p gl a s S1 S2 v L W) (hx : ∀ B, RS W p gl a s B S2 → RX W W' p gl a s B S3) : KD w0 base q p gl a s S1 S3 v L W' := by
  obtain ⟨B, h1, h2, h3, h4⟩ := h.r
  obtain ⟨⟨B', g1, g2, g3⟩, g4⟩ := hx B h1
  have hgl := h3 _ h1.hg
  refine ⟨h.m.fr1 g4 (fun hm => h2 _ hm h1.hg) (Nat.le_trans h.g hgl) hgl, ⟨B', g1, fun k hk hb => ?_, fun k hk => ?_, fun k hk hb => ?_⟩, h.g, h.o.frq g4 (fun k hk => by simp at hk; subst hk; exact h.gb), h.qb, h.gb, h.wb, Nat.le_trans h.bs g4.size⟩
  · rcases g3 k hb with h' | h'
    · exact h2 k hk h'
    · have := h.m.lt k hk; omega
  · rcases g3 k hk with h' | h'
    · exact h3 k h'
    · exact Nat.le_trans h.m.f.size h'
  · rcases g3 k hb with h' | h'
    · exact h4 k hk h'
    · have := (h.o.lt k hk).2; omega
theorem KD.app {W' : World} {v' : Value} {L' : List Nat} (h : KD w0 base q p gl a s S1 S2 v L W) (hf : Fr (ownS v) W W') (ho : Rw W' base v' L') (hv : v'.ownBlock = v.ownBlock ∨ ∃ k, v'.ownBlock = some k ∧ W.heap.size ≤ k) : KD w0 base q p gl a s S1 S2 v' L' W' := by
  obtain ⟨B, h1, h2, h3, h4⟩ := h.r
  have hq : ∀ k ∈ ownS v, k ∉ q.blocks := fun k hk hm => by
    have := (h.o.lt k (ownS_mem hk)).1
    have := h.qb k hm
    omega
  obtain ⟨u, u1, u2, u3, u4, u5⟩ := h.m.x
  have hm' : M15 w0 q a s S1 W' := by
    refine ⟨⟨u, ?_, u2, u3, u4, u5⟩, h.m.f.step hf (fun k hk => .inr (Nat.le_trans h.wb (h.o.lt k (ownS_mem hk)).1)), h.m.hq⟩
    unfold ownS at hf
    rcases hb : v.ownBlock with _ | g
    · rw [hb] at hf; exact u1.fr0 hf
    · rw [hb] at hf
      have hg := (h.o.lt g hb).1
      exact u1.fr1 hf (fun hm => by have := h.qb g hm; omega) (Nat.le_trans h.g (Nat.le_trans h.wb hg))
  refine ⟨hm', ⟨B, h1.fr hf (fun k hk => h4 k (ownS_mem hk)), h2, h3, fun k hk hb => ?_⟩, h.g, ho, h.qb, h.gb, h.wb, Nat.le_trans h.bs hf.size⟩
  rcases hv with e | ⟨k', e, hk'⟩
  · exact h4 k (e ▸ hk) hb
  · have := h1.lt k hb
    rw [e] at hk
    injection hk with hk
    omega
theorem KD.lens (h : KD w0 base q p gl a s S1 S2 v L W) : ∀ i, i < a → S1.cls i ≤ 9 ∧ (S1.fr i).length ≤ 1000 ∧ (S1.lv i).length ≤ 1000 := h.k.sl
theorem d_take (h : KD w0 base q p gl a s S1 S2 v L W) (c : Int) : Calls Tryz.prog 18 #[.pointer (some ⟨q.m, 0, none⟩), .int .i64 c] W fun e w' => e = .returned (.tuple #[.int .i64 (takeS a (lbase a s) S1 c).1, .int .i64 (takeS a (lbase a s) S1 c).2.1]) ∧ KD w0 base q p gl a s (takeS a (lbase a s) S1 c).2.2 S2 v L w' ∧ Fr q.blocks W w' := by
  obtain ⟨u, h1, h2, h3, h4, h5⟩ := h.m.x
  have := stake h1 h2 c
  rw [h3, h4] at this
  exact this.mono fun e w' ⟨he, u', k1, k2, k3, k4, k5, k6⟩ => ⟨he, h.step ⟨⟨u', k1, k2, k3.a.trans h3, k3.s.trans h4, k3.ft.trans h5⟩, h.m.f.step k6 (fun k hk => .inr (h.m.hq k hk)), h.m.hq⟩ k6, k6⟩
theorem d_xtake (h : KD w0 base q p gl a s S1 S2 v L W) (hl : ∀ i, i < a → (S2.fr i).length ≤ 1000 ∧ (S2.lv i).length ≤ 1000) (c : Int) : Calls Tryz.prog 19 #[.pointer (some ⟨p, 0, none⟩), .int .i64 c] W fun e w' => e = .returned (.tuple #[.int .i64 (takeS a (lbase a s) S2 c).1, .int .i64 (takeS a (lbase a s) S2 c).2.1]) ∧ KD w0 base q p gl a s S1 (takeS a (lbase a s) S2 c).2.2 v L w' ∧ Fr [gl] W w' := by
  obtain ⟨B, h1, h2, h3, h4⟩ := h.r
  refine (xTake h1 hl c).mono fun e w' ⟨he, hx⟩ => ⟨he, ?_⟩
  obtain ⟨⟨B', g1, g2, g3⟩, g4⟩ := hx
  have hgl := h3 _ h1.hg
  refine ⟨⟨h.m.fr1 g4 (fun hm => h2 _ hm h1.hg) (Nat.le_trans h.g hgl) hgl, ⟨B', g1, fun k hk hb => ?_, fun k hk => ?_, fun k hk hb => ?_⟩, h.g, h.o.frq g4 (fun k hk => by simp at hk; subst hk; exact h.gb), h.qb, h.gb, h.wb, Nat.le_trans h.bs g4.size⟩, g4⟩
  · rcases g3 k hb with h' | h'
    · exact h2 k hk h'
    · have := h.m.lt k hk; omega
  · rcases g3 k hk with h' | h'
    · exact h3 k h'
    · exact Nat.le_trans h.m.f.size h'
  · rcases g3 k hb with h' | h'
    · exact h4 k hk h'
    · have := (h.o.lt k hk).2; omega
theorem d_give (h : KD w0 base q p gl a s S1 S2 v L W) (x : Int) : Calls Tryz.prog 25 #[.pointer (some ⟨q.m, 0, none⟩), .int .i64 x] W fun e w' => e = .returned (.int .i64 (giveS a (lbase a s) S1 x).1) ∧ KD w0 base q p gl a s (giveS a (lbase a s) S1 x).2 S2 v L w' ∧ Fr q.blocks W w' := by
  obtain ⟨u, h1, h2, h3, h4, h5⟩ := h.m.x
  have := sgive h1 h2 x
  rw [h3, h4] at this
  exact this.mono fun e w' ⟨he, u', k1, k2, k3, k4, k6⟩ => ⟨he, h.step ⟨⟨u', k1, k2, k3.a.trans h3, k3.s.trans h4, k3.ft.trans h5⟩, h.m.f.step k6 (fun k hk => .inr (h.m.hq k hk)), h.m.hq⟩ k6, k6⟩
theorem KD.give_eq (h : KD w0 base q p gl a s S1 S2 v L W) (x : Int) : giveX a (lbase a s) S1 x = giveS a (lbase a s) S1 x := by
  obtain ⟨u, h1, h2, h3, h4, h5⟩ := h.m.x
  have := giveX_eq h2 h1.ok x
  rwa [h3, h4] at this
theorem KD.lin (h : KD w0 base q p gl a s S1 S2 v L W) : ∀ i, i < a → ∀ y ∈ S1.lv i, lbase a s + 1024 * i ≤ y ∧ y < lbase a s + 1024 * i + 1024 := by
  obtain ⟨u, h1, h2, h3, h4, h5⟩ := h.m.x
  have := lv_in h2 h1.ok
  rwa [h3, h4] at this
theorem d_xgive (h : KD w0 base q p gl a s S1 S2 v L W) (hl : ∀ i, i < a → (S2.fr i).length ≤ 1000 ∧ (S2.lv i).length ≤ 1000) (hin : ∀ i, i < a → ∀ y ∈ S2.lv i, lbase a s + 1024 * i ≤ y ∧ y < lbase a s + 1024 * i + 1024) (x : Int) :
    Calls Tryz.prog 30 #[.pointer (some ⟨p, 0, none⟩), .int .i64 x] W fun e w' => e = .returned (.int .i64 (giveX a (lbase a s) S2 x).1) ∧ KD w0 base q p gl a s S1 (giveX a (lbase a s) S2 x).2 v L w' ∧ Fr [gl] W w' := by
  obtain ⟨B, h1, h2, h3, h4⟩ := h.r
  refine (xGive h1 hl hin x).mono fun e w' ⟨he, hx⟩ => ⟨he, ?_⟩
  obtain ⟨⟨B', g1, g2, g3⟩, g4⟩ := hx
  have hgl := h3 _ h1.hg
  refine ⟨⟨h.m.fr1 g4 (fun hm => h2 _ hm h1.hg) (Nat.le_trans h.g hgl) hgl, ⟨B', g1, fun k hk hb => ?_, fun k hk => ?_, fun k hk hb => ?_⟩, h.g, h.o.frq g4 (fun k hk => by simp at hk; subst hk; exact h.gb), h.qb, h.gb, h.wb, Nat.le_trans h.bs g4.size⟩, g4⟩
  · rcases g3 k hb with h' | h'
    · exact h2 k hk h'
    · have := h.m.lt k hk; omega
  · rcases g3 k hk with h' | h'
    · exact h3 k h'
    · exact Nat.le_trans h.m.f.size h'
  · rcases g3 k hb with h' | h'
    · exact h4 k hk h'
    · have := (h.o.lt k hk).2; omega
theorem d_free (h : KD w0 base q p gl a s S1 S2 v L W) : Calls Tryz.prog 28 #[.pointer (some ⟨q.m, 0, none⟩)] W fun e w' => e = .returned (.int .i64 (freeN a S1)) ∧ KD w0 base q p gl a s S1 S2 v L w' := by
  obtain ⟨u, h1, h2, h3, h4, h5⟩ := h.m.x
  have hb := fun (w' : World) (k1 : IsT w' q u) (k6 : Fr q.blocks W w') => h.step (S3 := S1) ⟨⟨u, h1.step k1 k6, h2, h3, h4, h5⟩, h.m.f.step k6 (fun k hk => .inr (h.m.hq k hk)), h.m.hq⟩ k6
  have ha := liall h1.m h2.ls 0
  have e0 : lstI u.a S1.inn 0 = lst a S1.inn 0 := by unfold lstI; rw [if_pos (by decide), h3]; rfl
  rw [e0] at ha
  rw [← freeN_eq]
  have HM := Lib.hid hb
  generalize lst a S1.inn 0 = l at *
  clear h h1 h2 e0 hb
  go_enter Tryz.func28, Tryz.ntmps28
  go_wp2_with fail
  with_reducible refine ha.mono ?_
  rintro e w1 ⟨v1, rfl, hv, k1, f1⟩
  have H1 := Lib.hid (HM.out _ k1 f1)
  obtain ⟨ad, cap, rfl, hrow⟩ := own_row hv
  clear hrow hv k1 f1 HM ha
  go_wp2_with fail
  go_ret
  exact ⟨rfl, H1.out⟩
theorem d_xfree (h : KD w0 base q p gl a s S1 S2 v L W) : Calls Tryz.prog 31 #[.pointer (some ⟨p, 0, none⟩)] W fun e w' => e = .returned (.int .i64 (freeN a S2)) ∧ KD w0 base q p gl a s S1 S2 v L w' := by
  obtain ⟨B, h1, h2, h3, h4⟩ := h.r
  exact (xFree h1).mono fun e w' ⟨he, hf⟩ => ⟨he, h.fr0 hf⟩
theorem d_flt (h : KD w0 base q p gl a s S1 S2 v L W) : Calls Tryz.prog 26 #[.pointer (some ⟨q.m, 0, none⟩)] W fun e w' => e = .returned (.int .i64 0) ∧ KD w0 base q p gl a s S1 S2 v L w' := by
  obtain ⟨u, h1, h2, h3, h4, h5⟩ := h.m.x
  have := tfaults h1.m
  rw [h5] at this
  exact this.mono fun e w' ⟨he, k4⟩ => ⟨he, h.fr0 k4⟩
theorem d_live (h : KD w0 base q p gl a s S1 S2 v L W) (i : Nat) (hi : i < a) : Calls Tryz.prog 33 #[.pointer (some ⟨q.m, 0, none⟩), .int .i64 i] W fun e w' => ∃ ad cap, e = .returned (.slice ad (S1.lv i).length cap) ∧ RowV w' W.heap.size ad cap (S1.lv i) ∧ KD w0 base q p gl a s S1 S2 v L w' ∧ Fr q.blocks W w' := by
  obtain ⟨u, h1, h2, h3, h4, h5⟩ := h.m.x
  refine (slive h1 h2 i (by rw [h3]; exact hi)).mono fun e w' ⟨v', he, ho, k1, k6⟩ => ?_
  obtain ⟨ad, cap, rfl, hrow⟩ := own_row ho
  exact ⟨ad, cap, he, hrow, h.step ⟨⟨u, k1, h2, h3, h4, h5⟩, h.m.f.step k6 (fun k hk => .inr (h.m.hq k hk)), h.m.hq⟩ k6, k6⟩
theorem d_room (h : KD w0 base q p gl a s S1 S2 v L W) (c : Nat) : Calls Tryz.prog 34 #[.pointer (some ⟨q.m, 0, none⟩), .int .i64 c] W fun e w' => e = .returned (.int .i64 (roomN a S1 c)) ∧ KD w0 base q p gl a s S1 S2 v L w' := by
  obtain ⟨u, h1, h2, h3, h4, h5⟩ := h.m.x
  refine (sroom h1 h2 c).mono fun e w' ⟨he, k1, k6⟩ => ⟨?_, h.step ⟨⟨u, k1, h2, h3, h4, h5⟩, h.m.f.step k6 (fun k hk => .inr (h.m.hq k hk)), h.m.hq⟩ k6⟩
  rw [he, Int.toNat_natCast, h3]
  by_cases h0 : cszZ (c : Int) = 0
  · rw [if_pos h0]
    have hn : ∀ i, i < a → ¬ ((S1.cls i : Int) = (c : Int) ∧ (0 : Int) < (c : Int)) := fun i hi hc => by
      have h9 := (h2.each i (by rw [h3]; exact hi)).c9
      unfold cszZ at h0
      rw [if_pos (by omega)] at h0
      obtain ⟨z1, z2, z3, z4, z5, z6, z7⟩ := csz_tab c (by omega) (by omega)
      rw [Int.toNat_natCast] at h0
      omega
    have : ∀ n, n ≤ a → roomN n S1 c = 0 := fun n => by
      induction n with
      | zero => intro _; rfl
      | succ n ih => intro hn'; rw [roomN_succ, ih (by omega), if_neg (hn n (by omega))]
    rw [this a (Nat.le_refl _)]
  · rw [if_neg h0]
    have hc : 1 ≤ c := by
      unfold cszZ at h0
      split at h0
      · omega
      · exact absurd rfl h0
    rw [roomS_eq (fun i hi hi0 => (h2.each i (by rw [h3]; exact hi)).len hi0) c hc]
theorem d_xroom (h : KD w0 base q p gl a s S1 S2 v L W) (hl : ∀ i, i < a → (S2.fr i).length ≤ 1000) (c : Int) : Calls Tryz.prog 35 #[.pointer (some ⟨p, 0, none⟩), .int .i64 c] W fun e w' => e = .returned (.int .i64 (roomN a S2 c)) ∧ KD w0 base q p gl a s S1 S2 v L w' := by
  obtain ⟨B, h1, h2, h3, h4⟩ := h.r
  exact (xRoom h1 hl c).mono fun e w' ⟨he, hf⟩ => ⟨he, h.fr0 hf⟩
theorem d_runs (h : KD w0 base q p gl a s S1 S2 v L W) : Calls Tryz.prog 37 #[.pointer (some ⟨q.m, 0, none⟩)] W fun e w' => ∃ v', e = .returned v' ∧ OwnR w' W.heap.size v' (accR a s S1 a) ∧ Fr [] W w' := by
  obtain ⟨u, h1, h2, h3, h4, h5⟩ := h.m.x
  have e := runs_slabs h1.ok h2
  rw [h3, h4] at e
  have hr := mruns h1.m
  rw [← e] at hr
  exact hr
theorem d_xruns (h : KD w0 base q p gl a s S1 S1 v L W) : Calls Tryz.prog 38 #[.pointer (some ⟨p, 0, none⟩)] W fun e w' => ∃ v', e = .returned v' ∧ OwnR w' W.heap.size v' (accR a s S1 a) ∧ Fr [] W w' := by
  obtain ⟨B, h1, h2, h3, h4⟩ := h.r
  have hl := h.lens
  have hin := h.lin
  obtain ⟨u, u1, u2, u3, u4, u5⟩ := h.m.x
  refine xruns15 h1 (fun i hi => (hl i hi).2.2) (fun i hi => (hl i hi).1) (fun i k hi h0 hk => ?_)
  have hiu : i < u.a := by rw [u3]; exact hi
  have hm := (u2.each i hiu).mem' h0 hk
  have ea : adrB (lbase a s) i (S1.cls i) k = adr u i (S1.cls i) k := by rw [← u3, ← u4]; rfl
  rw [Bool.eq_iff_iff, isS_true, decide_eq_true_eq]
  constructor
  · rintro ⟨j, hj, y, hy, e⟩
    have e' : y = adrB (lbase a s) i (S1.cls i) k := by omega
    subst e'
    have : j = i := u2.slab_eq u1.ok (by rw [u3]; exact hj) hiu (.inr hy) (by rw [ea]; exact hm)
    rw [this] at hy
    exact hy
  · intro hy
    exact ⟨i, hi, _, hy, rfl⟩
end
end Go.Proofs.YtkapkbiccppldaaGreatDoor

/- ref09.Same where both rows are the same. -/
namespace Go.Proofs.YtkapkbiccppldaaGreatDoor
set_option linter.unusedVariables false
set_option linter.unusedSimpArgs false
open Go.RowKit

set_option maxHeartbeats 1000000 in
theorem r9same {w : World} {b1 b2 : Nat} {v1 v2 : Value} {l : List Rn} (h1 : OwnR w b1 v1 l) (h2 : OwnR w b2 v2 l) (hl : l.length ≤ 1048576) :
    Calls Tryz.prog 36 #[v1, v2] w fun e w' => e = .returned (.bool true) ∧ Fr [] w w' := by
  have hs : ∃ a1 c1 a2 c2, v1 = .slice a1 l.length c1 ∧ v2 = .slice a2 l.length c2 ∧ (0 < l.length → ∃ g1 g2, a1 = some ⟨g1, 0, none⟩ ∧ a2 = some ⟨g2, 0, none⟩ ∧ RowR w g1 c1 l ∧ RowR w g2 c2 l) := by
    by_cases h0 : 0 < l.length
    · obtain ⟨g1, c1, e1, _, r1⟩ := h1.rowR h0
      obtain ⟨g2, c2, e2, _, r2⟩ := h2.rowR h0
      exact ⟨_, _, _, _, e1, e2, fun _ => ⟨g1, g2, rfl, rfl, r1, r2⟩⟩
    · obtain ⟨A1, c1, e1⟩ := own_slice h1
      obtain ⟨A2, c2, e2⟩ := own_slice h2
      exact ⟨_, _, _, _, e1, e2, fun h => absurd h h0⟩
  obtain ⟨a1, c1, a2, c2, rfl, rfl, hp⟩ := hs
  have HP := Lib.hid hp
  clear hp h1 h2
  have hb0 : ((l.length : Int) != l.length) = false := by simp
  go_enter Tryz.func36, Tryz.ntmps36
  go_wp2_with fail
  go_loopw [5] (fun v wr => ∃ t : Nat, t ≤ l.length ∧ v = .int .i64 t ∧ Fr [] w wr) (fun v _ => l.length - (intOf v).toNat)
  case atStart => exact ⟨0, Nat.zero_le _, rfl, Fr.refl _ _⟩
  case round =>
    obtain ⟨t, ht, rfl, hF⟩ := hrel
    have F := Lib.hid hF
    clear hF
    by_cases hlt : t < l.length
    · obtain ⟨g1, g2, rfl, rfl, r1, r2⟩ := HP.out (by omega)
      obtain ⟨q1, q2, q3⟩ := (r1.fr F.out (by simp)).cells (List.getElem?_eq_getElem hlt)
      obtain ⟨p1, p2, p3⟩ := (r2.fr F.out (by simp)).cells (List.getElem?_eq_getElem hlt)
      generalize l[t] = r at *
      have hg2 : (0 : Int) ≤ t := by omega
      have hg3 : (t : Int) < l.length := by omega
      have b1 : decide ((t : Int) < l.length) = true := by simp; omega
      have b1' : decide (t < l.length) = true := by simp; omega
      have wt : IntKind.i64.wrap ((t : Int) + 1) = (t : Int) + 1 := IntWalk.i64_in _ (by omega)
      clear r1 r2
      go_wp2_with fail
      go_quiet (fail)
      go_wp2_with fail
      go_roundw
      case rel => exact ⟨t + 1, by omega, by go_num, F.out.drewN _⟩
      case measure => simp [intOf]; omega
    · have b1 : decide ((t : Int) < l.length) = false := by simp; omega
      have b1' : decide (t < l.length) = false := by simp; omega
      go_wp2_with fail
      go_ret
      exact ⟨rfl, F.out⟩
end Go.Proofs.YtkapkbiccppldaaGreatDoor
