/- Several texts in one. -/
import Derived.Test.YtgoogihfggndpaaGreatDoorLA
import Derived.Test.YtgoogihfggndpaaGreatDoorGI
import Derived.Test.YtgoogihfggndpaaGreatDoorGD
import Derived.Deep.RegionHeld3
import Derived.Test.YtgoogihfggndpaaGreatDoorKT
import Derived.Maps.OwnSet
import Derived.Maps.OwnOps
import Derived.Laws.StructEq
import Derived.Test.YtgoogihfggndpaaGreatDoorGN
/- Layer 16: a memory whose slabs hold together: the map of its image is what the watch tells. -/
namespace Go.Proofs.YtgoogihfggndpaaGreatDoor
set_option linter.unusedVariables false
set_option linter.unusedSimpArgs false
open Go.RowKit
variable {t : TM} {S : SS}

theorem At.im {x k kind v : Nat} (h : At t x k kind v) : imN t.bytes x k = v := by
  have e := ldTo_of t.bytes x v k (fun j hj => by
    rw [TM.bytes_get t _ (by have := h.fit; omega), h.bytes j hj]; rfl)
  rw [imN, e, Nat.mod_eq_of_lt h.lt]
theorem im_hd (hok : t.Ok) {i : Nat} (hi : i < t.a) : imN t.bytes (hdAt i) 2 = t.hd i 0 ∧ imN t.bytes (hdAt i + 2) 2 = t.hd i 1 ∧ imN t.bytes (hdAt i + 4) 4 = t.hd i 2 :=
  ⟨(at_hd hok i 0 hi (by omega)).im, (at_hd hok i 1 hi (by omega)).im, (at_hd hok i 2 hi (by omega)).im⟩
theorem im_lnk {x s n : Nat} (hl : x + s ≤ lsize t.a t.s) (hs : 8 ≤ s) (hy : ByOn t x s (lnkB n)) (hn : n < 4294967296) : imN t.bytes (x + 4) 4 = n := by
  have e := ldTo_of t.bytes (x + 4) n 4 (fun j hj => by
    rw [TM.bytes_get t _ (by omega), Nat.add_assoc, hy (4 + j) (by omega), lnkB, if_pos (by omega)]
    rw [show 4 + j - 4 = j by omega]; rfl)
  rw [imN, e, Nat.mod_eq_of_lt (by simpa using hn)]
theorem FrL.nth {s : Nat} : ∀ {l : List Nat}, FrL t s l → ∀ j, (h : j < l.length) → ByOn t l[j] s (lnkB (l[j + 1]?.getD 0))
  | [], _, j, h => by simp at h
  | x :: l, hf, 0, h => by
    have := hf.2.1
    have e : l.headD 0 = (x :: l)[0 + 1]?.getD 0 := by cases l <;> rfl
    rw [← e]; exact this
  | x :: l, hf, j + 1, h => by
    have := FrL.nth hf.2.2 j (by simpa using h)
    simpa using this
theorem slabM_ok (hok : t.Ok) (hs : SlI t S) (hf : S.full t.a) {i : Nat} (hi : i < t.a) : slabM t.bytes (hdAt i) (lbase t.a t.s + 1024 * i) = some (slabR (lbase t.a t.s) S i) := by
  have h := hs.each i hi
  have ho := sla_ok hok i hi
  obtain ⟨e0, e1, e2⟩ := im_hd hok hi
  rw [h.h0] at e0
  rw [h.h1] at e1
  rw [h.h2] at e2
  unfold slabM slabR
  rw [e0, e1, e2]
  have h9 := h.c9
  rw [if_neg (by omega)]
  by_cases hc : S.cls i = 0
  · obtain ⟨hF, hL, hk, hb⟩ := h.z hc
    rw [if_pos hc, if_pos hc, hF, hL]
    refine if_pos ⟨rfl, rfl, ?_⟩
    unfold zeroM
    rw [List.all_eq_true]
    intro x hx
    obtain ⟨j, hj, rfl⟩ := List.mem_iff_getElem.1 hx
    rw [List.length_take, List.length_drop, TM.bytes_len] at hj
    rw [List.getElem_take, List.getElem_drop]
    have hl : sla t i + j < lsize t.a t.s := by omega
    have g := TM.bytes_get t (sla t i + j) hl
    rw [hb j (by omega), List.getElem?_eq_getElem (by rw [TM.bytes_len]; exact hl)] at g
    have g' : t.bytes[sla t i + j]'(by rw [TM.bytes_len]; exact hl) = 0 := by simpa using g
    simpa [sla] using g'
  · have hc' : 1 ≤ S.cls i ∧ S.cls i ≤ 9 := ⟨by omega, h9⟩
    have ht := csz_tab _ hc'.1 hc'.2
    have hlen := h.len hc
    have hne : S.lv i ≠ [] := hf i hi hc
    have hl0 : 0 < (S.lv i).length := List.length_pos_iff.2 hne
    have hnd := h.nodup hc
    have hadr : ∀ k, adr t i (S.cls i) k = lbase t.a t.s + 1024 * i + csz (S.cls i) * k := fun k => rfl
    obtain ⟨ks, h1, h2, h3⟩ := chase_ok (l := t.bytes) (b := lbase t.a t.s + 1024 * i) hc' (S.fr i) (nbk (S.cls i) + 1) [] (by omega) (fun y hy => by
      obtain ⟨k, hk, rfl⟩ := h.mem hc (.inl hy)
      have := (h.at_ hok hi (.inl hy)).2.2.2.2.2.2
      exact ⟨k, hk, by rw [hadr], by simp, by omega⟩) (List.nodup_append.1 hnd).1 (fun j hj => by
      have hm : (S.fr i)[j] ∈ S.fr i := List.getElem_mem hj
      have ha := h.at_ hok hi (.inl hm)
      refine im_lnk (s := csz (S.cls i)) (by omega) (by omega) (FrL.nth h.free j hj) ?_
      rcases Nat.lt_or_ge (j + 1) (S.fr i).length with hj' | hj'
      · rw [List.getElem?_eq_getElem hj']
        have hb := h.at_ hok hi (.inl (List.getElem_mem hj'))
        have hz := lsize_le t.a t.s hok.cfg
        show (S.fr i)[j + 1] < _
        omega
      · rw [List.getElem?_eq_none hj']; decide)
    rw [if_neg hc, if_neg hc, h1]
    show (if (ks ++ []).length = _ ∨ _ then none else _) = _
    rw [List.append_nil, if_neg (by omega)]
    refine congrArg some ?_
    congr 1
    refine List.map_congr_left fun k hk => ?_
    have hk' := List.mem_range.1 hk
    unfold blkM blkR
    have e : adrB (lbase t.a t.s) i (S.cls i) k = adr t i (S.cls i) k := congrFun (adrB_t t i (S.cls i)) k
    rw [e, hadr]
    have hm := h.mem' hc hk'
    rw [hadr] at hm
    by_cases hin : lbase t.a t.s + 1024 * i + csz (S.cls i) * k ∈ S.fr i
    · have hnl : lbase t.a t.s + 1024 * i + csz (S.cls i) * k ∉ S.lv i := fun hl => (List.nodup_append.1 hnd).2.2 _ hin _ hl rfl
      rw [if_pos ((h3 k).2 ⟨hin, hk'⟩), if_neg hnl]
    · rw [if_neg (fun hk2 => hin ((h3 k).1 hk2).1), if_pos (hm.resolve_left hin)]
theorem slabsM_ok (hok : t.Ok) (hs : SlI t S) (hf : S.full t.a) : ∀ n, n ≤ t.a → slabsM t.bytes t.a t.s n = some (rrun5 t.a t.s ++ allR (lbase t.a t.s) S n)
  | 0, _ => by simp [slabsM, allR]
  | n + 1, h => by
    rw [slabsM, slabsM_ok hok hs hf n (by omega)]
    show (match slabM t.bytes (hdAt n) (lbase t.a t.s + 1024 * n) with | none => none | some r => some _) = _
    rw [slabM_ok hok hs hf (by omega)]
    show some _ = some _
    rw [allR, List.append_assoc]

/-! ### joined -/
theorem lastEnd_snoc (l : List Rn) (r : Rn) : lastEnd (l ++ [r]) = r.1 + r.2.1 := by simp [lastEnd]
theorem jstep_with (L : List Rn) (r : Rn) (h1 : lastEnd L = r.1) (h2 : r.1 + r.2.1 ≤ 1099511627776) (h3 : ∀ x ∈ L, x.1 + x.2.1 ≤ 1099511627776) :
    jstep (L.map zOf) (zOf r) = (withR L r).map zOf ∧ lastEnd (withR L r) = r.1 + r.2.1 ∧ ∀ x ∈ withR L r, x.1 + x.2.1 ≤ 1099511627776 := by
  rcases List.eq_nil_or_concat L with rfl | ⟨M, x, rfl⟩
  · rw [withR_nil]
    refine ⟨rfl, by simp [lastEnd], fun y hy => ?_⟩
    obtain rfl : y = r := by simpa using hy
    exact h2
  · rw [List.concat_eq_append] at h1 h3 ⊢
    rw [lastEnd_snoc] at h1
    rw [withR_snoc, List.map_append, List.map_cons, List.map_nil, jstep_snoc]
    have hx : x.1 + x.2.1 ≤ 1099511627776 := h3 x (by simp)
    have e : folZ (zOf x) (zOf r) = decide (x.2.2 = r.2.2) := by
      have p1 : prZ (zOf x) = true := by simp [prZ, zOf]; omega
      have p2 : prZ (zOf r) = true := by simp [prZ, zOf]; omega
      have p3 : ((zOf x).1 + (zOf x).2.1 == (zOf r).1) = true := by simp [zOf]; omega
      unfold folZ
      rw [p1, p2, p3]
      simp [zOf]
      by_cases hk : x.2.2 = r.2.2
      · simp [hk]
      · have : ((x.2.2 : Nat) : Int) ≠ (r.2.2 : Nat) := by omega
        simp [hk, this]
    rw [e]
    by_cases hk : x.2.2 = r.2.2
    · rw [if_pos (by simpa using hk), if_pos hk]
      refine ⟨by rw [List.map_append]; simp [zOf], by rw [lastEnd_snoc]; show x.1 + (x.2.1 + r.2.1) = _; omega, fun y hy => ?_⟩
      rcases List.mem_append.1 hy with h | h
      · exact h3 y (by simp [h])
      · obtain rfl := List.mem_singleton.1 h
        show x.1 + (x.2.1 + r.2.1) ≤ _
        omega
    · rw [if_neg (by simpa using hk), if_neg hk]
      refine ⟨by simp [zOf], by rw [lastEnd_snoc], fun y hy => ?_⟩
      rcases List.mem_append.1 hy with h | h
      · exact h3 y h
      · obtain rfl := List.mem_singleton.1 h
        exact h2
/-- One behind the other. -/
def Ctg : Nat → List Rn → Nat → Prop
  | e, [], y => e = y
  | e, r :: l, y => r.1 = e ∧ Ctg (e + r.2.1) l y
theorem Ctg.le : ∀ {l : List Rn} {e y : Nat}, Ctg e l y → e ≤ y
  | [], _, _, h => Nat.le_of_eq h
  | r :: l, e, y, h => by have := Ctg.le h.2; omega
theorem Ctg.app : ∀ {l m : List Rn} {e y z : Nat}, Ctg e l y → Ctg y m z → Ctg e (l ++ m) z
  | [], m, e, y, z, h, k => by obtain rfl : e = y := h; exact k
  | r :: l, m, e, y, z, h, k => ⟨h.1, Ctg.app h.2 k⟩
theorem Pcs.ctg {K : List Nat} : ∀ {p : List Rn} {x y : Nat}, Pcs K x p y → Ctg (4 * x) p (4 * y)
  | [], x, y, h => by obtain rfl : x = y := h; rfl
  | r :: p, x, y, h => by
    obtain ⟨m, m0, hm, _⟩ := h.1.len
    refine ⟨h.1.at_, ?_⟩
    have := Pcs.ctg h.2
    rw [show 4 * x + r.2.1 = 4 * (x + r.2.1 / 4) by omega]
    exact this
theorem fold_join : ∀ (p : List Rn) (L : List Rn) (e y : Nat), Ctg e p y → y ≤ 1099511627776 → lastEnd L = e → (∀ x ∈ L, x.1 + x.2.1 ≤ 1099511627776) → (p.map zOf).foldl jstep (L.map zOf) = (p.foldl withR L).map zOf
  | [], L, e, y, _, _, _, _ => rfl
  | r :: p, L, e, y, hc, hy, hL, hb => by
    have hle := Ctg.le hc.2
    have h0 := hc.1
    obtain ⟨h1, h2, h3⟩ := jstep_with L r (by omega) (by omega) hb
    rw [List.map_cons, List.foldl_cons, List.foldl_cons, h1]
    exact fold_join p _ _ _ hc.2 hy (by rw [h2]; omega) h3
theorem mapM_ok (hok : t.Ok) (hs : SlI t S) (hf : S.full t.a) : mapM16 t.bytes t.a t.s = some (((runs t.kinds).map sc4).map zOf) := by
  unfold mapM16
  rw [slabsM_ok hok hs hf _ (Nat.le_refl _)]
  show some (joinZ _) = _
  have hz := cfg_sizes hok.cfg
  have hp := (base_pcs hok).app (all_pcs hok hs _ (Nat.le_refl _))
  have hc := Pcs.ctg hp
  have := sla_ok hok (t.a - 1) (by omega)
  unfold joinZ
  rw [show ([] : List Rz) = ([] : List Rn).map zOf from rfl, fold_join _ [] 0 _ hc (by
    have := lsize_le t.a t.s hok.cfg
    have : sla t t.a = lsize t.a t.s := by unfold sla; omega
    omega) rfl (by simp), List.foldl_append, rrun5_fold, runs_slabs hok hs]
end Go.Proofs.YtgoogihfggndpaaGreatDoor

/- region: an image that is gone through: number, lay, blank; class.Index. -/
namespace Go.Proofs.YtgoogihfggndpaaGreatDoor
set_option linter.unusedVariables false
set_option linter.unusedSimpArgs false
open Go.RowKit

def layE (l : List Rn) (n k : Nat) : List Rn := if 0 < n then l ++ [(lastEnd l, n, k)] else l
/-- The view of an image; what was laid so far. -/
structure VW (wb : World) (pv a s gi ci : Nat) (im : List Nat) (L : List Rn) (w : World) : Prop where
  st : ∃ vr, Blk w pv 221 #[.int .i64 a, .int .i64 s, .slice (some ⟨gi, 0, none⟩) im.length ci, vr] ∧ OwnR w wb.heap.size vr L
  f : Fr [pv] wb w
  img0 : Byt wb (some ⟨gi, 0, none⟩) im
  tab0 : TabM wb
  cfg : Cfg a s
  len : im.length = lsize a s
  hp : 2 ≤ pv
  lt : pv < wb.heap.size
  ne : gi ≠ pv
  hc : im.length ≤ ci
section
variable {wb w w' : World} {pv a s gi ci : Nat} {im : List Nat} {L : List Rn}
theorem VW.img (h : VW wb pv a s gi ci im L w) : Byt w (some ⟨gi, 0, none⟩) im := h.img0.fr h.f (fun g o e => by injection e with e; injection e with e1 e2; subst e1; simp [h.ne])
theorem VW.tab (h : VW wb pv a s gi ci im L w) : TabM w := h.tab0.fr h.f (fun k hk => by have := h.hp; simp at hk; omega)
theorem VW.fr0 (h : VW wb pv a s gi ci im L w) (hf : Fr [] w w') : VW wb pv a s gi ci im L w' := by
  obtain ⟨vr, hB, hO⟩ := h.st
  exact ⟨⟨vr, hB.fr hf (by simp), own_keep hO hf⟩, h.f.trans hf.nil, h.img0, h.tab0, h.cfg, h.len, h.hp, h.lt, h.ne, h.hc⟩
theorem VW.to (h : VW wb pv a s gi ci im L w) {vr : Value} {L' : List Rn} (hB : Blk w' pv 221 #[.int .i64 a, .int .i64 s, .slice (some ⟨gi, 0, none⟩) im.length ci, vr]) (hO : OwnR w' wb.heap.size vr L') (hf : Fr [pv] wb w') : VW wb pv a s gi ci im L' w' :=
  ⟨⟨vr, hB, hO⟩, hf, h.img0, h.tab0, h.cfg, h.len, h.hp, h.lt, h.ne, h.hc⟩
theorem imN_ld {l : List Nat} {x k : Nat} (hk : k = 2 ∨ k = 4) (hx : x % k = 0) (hl : x + k ≤ l.length) : ldV l x k = imN l x k := by
  unfold ldV imN
  rw [if_pos (placeE_ok _ _ _ (by omega) hx hl)]
  rfl
theorem imN_lt {l : List Nat} {x k : Nat} (hk : k = 2 ∨ k = 4) (hb : ∀ b ∈ l, b < 256) : imN l x k < 4294967296 := by
  have := ldTo_lt l hb x k
  rcases hk with rfl | rfl
  · unfold imN; omega
  · unfold imN; omega
/-- What lay changes: the view's block and the row of runs. -/
def LayF (pv : Nat) (w w' : World) : Prop := ∃ S, Fr S w w' ∧ ∀ g ∈ S, g = pv ∨ ∃ cs, Blk w g 84 cs
theorem LayF.of0 (hf : Fr [] w w') : LayF pv w w' := ⟨[], hf, by simp⟩
theorem ownR_blk {base : Nat} {v : Value} {l : List Rn} (h : OwnR w base v l) : ∀ g ∈ ownS v, ∃ cs, Blk w g 84 cs := by
  intro g hg
  have hg := ownS_mem hg
  obtain ⟨_, ⟨rfl, _⟩ | ⟨g', cap, cur, rfl, hb, hB, _⟩⟩ := h
  · cases hg
  · injection hg with e
    have e : g' = g := e
    subst e
    exact ⟨cur, hB⟩
theorem LayF.mk {v : Value} {base : Nat} {w2 W1 : World} (h : OwnR w base v L) (h0 : Fr [] w w2) (h1 : Fr (ownS v) w2 W1) (u : Value) (i : Nat) : LayF pv w (W1.setCell ⟨pv, i, none⟩ u) :=
  ⟨pv :: ownS v, ((h0.nil.trans (h1.mono (fun k hk => .inl (by simp [hk])))).setCell (.inl (by simp)) u), fun g hg => by
    rcases List.mem_cons.1 hg with h' | h'
    · exact .inl h'
    · exact .inr (ownR_blk h g h')⟩
theorem vnum (h : VW wb pv a s gi ci im L w) (x k : Nat) (hk : k = 2 ∨ k = 4) (hx : x % k = 0) (hl : x + k ≤ im.length) (x' k' : Int) (ex : x' = x) (ek : k' = k) :
    Calls Tryz.prog 234 #[.pointer (some ⟨pv, 0, none⟩), .int .i64 x', .int .i64 k'] w fun e w' => e = .returned (.int .i64 (imN im x k)) ∧ w' = w := by
  subst ex ek
  have hld := load_any w (some ⟨gi, 0, none⟩) ci im h.img x k
  rw [imN_ld hk hx hl] at hld
  have hlt := imN_lt (x := x) hk h.img.byte
  obtain ⟨vr, hB, hO⟩ := h.st
  have d2 := hB.cell 2
  simp at d2
  have wn : IntKind.i64.wrap (imN im x k : Int) = (imN im x k : Int) := IntWalk.i64_in _ (by omega)
  generalize imN im x k = N at *
  generalize placeE im.length x k = E at *
  generalize im.length = il at *
  clear h hB hO
  go_enter Tryz.func234, Tryz.ntmps234
  go_wp2_with fail
  with_reducible refine hld.mono ?_
  rintro e w1 ⟨rfl, rfl⟩
  go_wp2_with fail
  go_ret
  exact ⟨rfl, rfl⟩
set_option maxRecDepth 100000 in
set_option maxHeartbeats 4000000 in
theorem vlay (h : VW wb pv a s gi ci im L w) (m k : Nat) (hm : m ≤ 1048576) (hx : lastEnd L ≤ 1048576) (hL : L.length ≤ 8192) (m' k' : Int) (em : m' = m) (ek : k' = k) :
    Calls Tryz.prog 182 #[.pointer (some ⟨pv, 0, none⟩), .int .i64 m', .int .i64 k'] w fun e w' => e = .returned (.tuple #[]) ∧ VW wb pv a s gi ci im (layE L m k) w' ∧ LayF pv w w' := by
  subst em ek
  obtain ⟨vr, hB, hO⟩ := h.st
  obtain ⟨A, c, rfl⟩ := own_slice hO
  have d3 := hB.cell 3
  have z3 := hB.frozen 3
  simp at d3
  have HB := Lib.hid hB
  have HO := Lib.hid hO
  have H := Lib.hid h
  have hbs := h.f.size
  have hlt := h.lt
  clear h hB
  by_cases h0 : 0 < L.length
  · obtain ⟨M, ⟨y, z, yk⟩, rfl⟩ : ∃ M x, L = M ++ [x] := by
      rcases List.eq_nil_or_concat L with rfl | ⟨M, x, rfl⟩
      · simp at h0
      · exact ⟨M, x, by simp⟩
    obtain ⟨g, cap, hv, hg, hr⟩ := (show ∃ g cap, Value.slice A (M ++ [(y, z, yk)]).length c = .slice (some ⟨g, 0, none⟩) (M ++ [(y, z, yk)]).length cap ∧ wb.heap.size ≤ g ∧ (w.cell? ⟨g, M.length * 3, none⟩ = some (.int .i64 y) ∧ w.cell? ⟨g, M.length * 3 + 1, none⟩ = some (.int .i64 z)) ∧ (M ++ [(y, z, yk)]).length ≤ cap from by
      obtain ⟨h1, ⟨h2, h3⟩ | ⟨g, cap, cur, hv, hb, hgB, r1, r2, r3, r4⟩⟩ := hO
      · omega
      · have hat : ∀ j u, (rCells (M ++ [(y, z, yk)]))[j]? = some u → w.cell? ⟨g, j, none⟩ = some u := fun j u hu => by
          have hj : j < (M ++ [(y, z, yk)]).length * 3 := by
            have := (List.getElem?_eq_some_iff.1 hu).1
            rw [rCells_len] at this; omega
          rw [(show Blk w g _ cur from hgB).cell, ← Array.getElem?_toList, ← hu, ← r4, List.getElem?_take, if_pos hj]
        obtain ⟨e1, e2, _⟩ := rCells_get (M ++ [(y, z, yk)]) M.length (y, z, yk) (by simp)
        rw [Nat.mul_comm] at e1 e2
        exact ⟨g, cap, hv, hb, ⟨hat _ _ e1, hat _ _ e2⟩, r1⟩)
    injection hv with hA _ hcc
    subst hA hcc
    obtain ⟨⟨c0, c1⟩, hcap⟩ := hr
    have hle : lastEnd (M ++ [(y, z, yk)]) = y + z := by simp [lastEnd]
    have hM : (M ++ [(y, z, yk)]).length = M.length + 1 := by simp
    rw [hle] at hx
    have hE : layE (M ++ [(y, z, yk)]) m k = if 0 < m then (M ++ [(y, z, yk)]) ++ [(y + z, m, k)] else M ++ [(y, z, yk)] := by unfold layE; rw [hle]
    rw [hE]
    have hLl : (M ++ [(y, z, yk)]).length ≤ 1048576 := by omega
    rw [hM] at hL d3 hcap
    rw [hM] at HB HO
    generalize hLL : M ++ [(y, z, yk)] = LL at *
    generalize M.length = n at *
    have i0 : (0 : Int) ≤ n := by omega
    have b0 : decide ((0 : Int) ≤ n) = true := by simp
    have i1 : (n : Int) < (n + 1 : Nat) := by omega
    have i1' : (n : Int) < n + 1 := by omega
    have i3 : IntKind.i64.wrap (((n + 1 : Nat) : Int) - 1) = (n : Int) := (IntWalk.i64_in _ (by omega)).trans (by omega)
    have i3' : IntKind.i64.wrap ((n : Int) + 1 - 1) = (n : Int) := (IntWalk.i64_in _ (by omega)).trans (by omega)
    have i5 : IntKind.i64.wrap ((y : Int) + z) = ((y + z : Nat) : Int) := (IntWalk.i64_in _ (by omega)).trans (by omega)
    clear hLL hE hle hM h0 hO
    generalize y + z = x at *
    by_cases hlt2 : 0 < m
    · have b1 : decide ((0 : Int) < m) = true := by simp; omega
      have b1' : decide (0 < m) = true := by simp; omega
      rw [if_pos hlt2]
      go_enter Tryz.func182, Tryz.ntmps182
      go_wp2_with fail
      go_quiet (fail)
      have hO2 := Lib.hid (show (w.drewN nq).ownsRow wb.heap.size 84 3 (.slice (some ⟨g, 0, none⟩) (n + 1) c) LL.length (rCells LL) from HO.out)
      have hB2 := Lib.hid (show Blk (w.drewN nq) pv 221 #[.int .i64 a, .int .i64 s, .slice (some ⟨gi, 0, none⟩) im.length ci, .slice (some ⟨g, 0, none⟩) (n + 1) c] from HB.out)
      have hf2 := Lib.hid (show Fr [pv] wb (w.drewN nq) from H.out.f.drewN nq)
      have hs2 : wb.heap.size ≤ (w.drewN nq).heap.size := hf2.out.size
      have hw2 := Lib.hid ((Fr.refl [] w).drewN nq)
      generalize w.drewN nq = w2 at *
      have e3 := hB2.out.cell 3
      simp at e3
      have y3 := hB2.out.frozen 3
      clear d3 z3 c0 c1
      go_wp2_with (at_builtin; refine wpList_appR rfl _ _ rfl rfl wb.heap.size _ LL rfl (World.ownsRow.alloc hO2.out _) _ (x, m, k) rfl (Blk.new _ _ _) hLl (by simp; omega) ?_; intro v1 W1 hO1 hg1 hob1; obtain ⟨A1, c1, rfl⟩ := own_slice hO1; rw [show (LL ++ [(x, m, k)]).length = LL.length + 1 from by simp] at hO1; have HB1 := Lib.hid (own_blk (World.ownsRow.alloc hO2.out _) hg1 (hB2.out.alloc _) (by decide)); have HF1 := Lib.hid (own_frB (World.ownsRow.alloc hO2.out _) hg1 (hf2.out.alloc _) (Nat.le_refl _)); have t3 := HB1.out.cell 3; have u3 := HB1.out.frozen 3; simp at t3; have HO1 := Lib.hid hO1; have HG1 := Lib.hid (fr_grown hg1); clear hO1 hg1 hob1)
      go_end0
      exact ⟨rfl, H.out.to (HB1.out.set 3 _) (own_set HO1.out HB1.out (by decide) _ _) (HF1.out.setCell (.inl (by simp)) _), LayF.mk HO.out hw2.out HG1.out _ _⟩
    · have b1 : decide ((0 : Int) < m) = false := by simp; omega
      have b1' : decide (0 < m) = false := by simp; omega
      rw [if_neg hlt2]
      go_enter Tryz.func182, Tryz.ntmps182
      go_wp2_with fail
      go_quiet (fail)
      go_wp2_with fail
      go_end0
      exact ⟨rfl, H.out.fr0 ((Fr.refl [] _).drewN _), .of0 ((Fr.refl [] _).drewN _)⟩
  · obtain rfl : L = [] := List.eq_nil_of_length_eq_zero (by omega)
    have hE : layE [] m k = if 0 < m then [(0, m, k)] else [] := by unfold layE; rfl
    rw [hE]
    simp only [List.length_nil] at *
    have w0 : IntKind.i64.wrap (-1) = -1 := by decide
    by_cases hlt2 : 0 < m
    · have b1 : decide ((0 : Int) < m) = true := by simp; omega
      have b1' : decide (0 < m) = true := by simp; omega
      rw [if_pos hlt2]
      clear hO
      go_enter Tryz.func182, Tryz.ntmps182
      go_wp2_with (at_builtin; (refine wpList_appR rfl _ _ rfl rfl wb.heap.size _ [] rfl (World.ownsRow.alloc HO.out _) _ (0, m, k) rfl (by exact Blk.new _ _ _) (by simp) (by simp; omega) ?_; intro v1 W1 hO1 hg1 hob1; obtain ⟨A1, c1, rfl⟩ := own_slice hO1; have HB1 := Lib.hid (own_blk (World.ownsRow.alloc HO.out _) hg1 (HB.out.alloc _) (by decide)); have HF1 := Lib.hid (own_frB (World.ownsRow.alloc HO.out _) hg1 (H.out.f.alloc _) (Nat.le_refl _)); have t3 := HB1.out.cell 3; have u3 := HB1.out.frozen 3; simp at t3; have HO1 := Lib.hid hO1; have HG1 := Lib.hid (fr_grown hg1); clear hO1 hg1 hob1))
      go_end0
      exact ⟨rfl, H.out.to (HB1.out.set 3 _) (own_set HO1.out HB1.out (by decide) _ _) (HF1.out.setCell (.inl (by simp)) _), LayF.mk HO.out (Fr.refl _ _) HG1.out _ _⟩
    · have b1 : decide ((0 : Int) < m) = false := by simp; omega
      have b1' : decide (0 < m) = false := by simp; omega
      rw [if_neg hlt2]
      clear hO
      go_enter Tryz.func182, Tryz.ntmps182
      go_wp2_with fail
      go_end0
      exact ⟨rfl, H.out, .of0 (Fr.refl _ _)⟩
end
end Go.Proofs.YtgoogihfggndpaaGreatDoor

/- region: class.Index; is a slab noughts. -/
namespace Go.Proofs.YtgoogihfggndpaaGreatDoor
set_option linter.unusedVariables false
set_option linter.unusedSimpArgs false
open Go.RowKit

theorem idxN_none {b c f : Nat} (h : ¬ (b ≤ f ∧ (f - b) % csz c = 0 ∧ (f - b) / csz c < nbk c)) : idxN b c f = none := if_neg h
theorem idxN_yes {b c f : Nat} (h : b ≤ f ∧ (f - b) % csz c = 0 ∧ (f - b) / csz c < nbk c) : idxN b c f = some ((f - b) / csz c) := if_pos h
set_option maxRecDepth 100000 in
set_option maxHeartbeats 4000000 in
theorem cindex {w : World} (hM : TabM w) (c b f : Nat) (hc : 1 ≤ c ∧ c ≤ 9) (hf : f ≤ 4294967296) (x : Int) (hx : x = (f : Int) - b) (hx2 : -4294967296 ≤ x) :
    Calls Tryz.prog 259 #[.int .i64 c, .int .i64 x] w fun e w' => e = .returned (match idxN b c f with | some k => .tuple #[.int .i64 k, .bool true] | none => .tuple #[.int .i64 0, .bool false]) ∧ Fr [] w w' := by
  have hi := fun W => cis_all W c
  rw [show cisB (c : Int) = true by simp [cisB]; omega] at hi
  have hk := Lib.hid (fun W (h : TabM W) => cblocks h c)
  rw [show nbkZ (c : Int) = nbk c from nbkZ_nat c hc.2] at hk
  have HMd := Lib.hid (hM.fr (Fr.refl [] w).drew (by simp))
  have hY : w.drew.cell? ⟨1, c, none⟩ = some (.int .i64 (csz c)) := (hM.cls c).trans (cls_get c hc)
  have d0 : w.cell? ⟨1, c, none⟩ = some (.int .i64 (csz c)) := (hM.cls c).trans (cls_get c hc)
  have g1 : (0 : Int) ≤ c := by omega
  have g2 : (c : Int) < 10 := by omega
  obtain ⟨s1, s2, s3, n1, n2, _⟩ := csz_tab c hc.1 hc.2
  have hI1 := Lib.hid (@idxN_none b c f)
  have hI2 := Lib.hid (@idxN_yes b c f)
  generalize idxN b c f = I at *
  generalize csz c = s at *
  generalize nbk c = n at *
  have z0 : ((s : Int) == 0) = false := by simp; omega
  have z1 : (0 : Int) < s := by omega
  have z2 : ¬ s = 0 := by omega
  clear hM
  by_cases h0 : b ≤ f
  · obtain ⟨y, hy⟩ : ∃ y : Nat, f - b = y := ⟨_, rfl⟩
    obtain rfl : x = (y : Int) := by omega
    rw [hy] at hI1 hI2
    have b0 : decide ((y : Int) < 0) = false := by simp
    obtain ⟨r, hr⟩ : ∃ r, y % s = r := ⟨_, rfl⟩
    obtain ⟨d, hd⟩ : ∃ d, y / s = d := ⟨_, rfl⟩
    have hR : (y : Int).tmod s = (r : Int) := by rw [← hr]; rfl
    have hD : (y : Int).tdiv s = (d : Int) := by rw [← hd]; rfl
    have hR' : (y : Int) % s = (r : Int) := by rw [← hr]; rfl
    have hD' : (y : Int) / s = (d : Int) := by rw [← hd]; rfl
    rw [hr, hd] at hI1 hI2
    have hdy : d ≤ y := by rw [← hd]; exact Nat.div_le_self _ _
    have wd : IntKind.i64.wrap (d : Int) = (d : Int) := IntWalk.i64_in _ (by omega)
    by_cases h1 : r = 0
    · subst h1
      have b1 : (((0 : Nat) : Int) != 0) = false := by simp
      by_cases h2 : d < n
      · have b2 : decide ((n : Int) ≤ d) = false := by simp; omega
        have b2' : decide (n ≤ d) = false := by simp; omega
        rw [hI2.out ⟨h0, rfl, h2⟩]
        clear hI1 hI2 hx h0 hy hr hd h2
        go_enter Tryz.func259, Tryz.ntmps259
        go_wp2_with fail
        refine wp_region_held_drew (S := fun W => W.cell? ⟨1, c, none⟩ = some (.int .i64 s)) (by kernel_rfl) (hY) (fun yH => ?_)
        refine tkY 0 yH (h := ?_)
        refine wpAnyH_ready (rs := [1]) (by kernel_rfl) (by simp) ?_
        refine AllReadyH.cons (o := ?ooa1) ?hia1 (fun K hK => ?hca1) AllReadyH.nil
        case hia1 => (simp only [List.getElem?_toArray, List.getElem?_cons_zero, List.getElem?_cons_succ]; rfl)
        go_simp
        with_reducible refine (hi _).mono ?_
        rintro e w1 ⟨rfl, rfl⟩
        go_wp2_with fail
        refine hK.out _ _ (hY) (fun yH => ?_)
        clear hK K
        try simp only [Act.put, List.setIfInBounds_toArray, List.set_cons_zero, List.set_cons_succ]
        refine tkY 2 yH (h := ?_)
        refine tkY 3 yH (h := ?_)
        refine tkY 4 yH (h := ?_)
        refine tkY 5 yH (h := ?_)
        refine tkY 6 yH (h := ?_)
        refine tkY 7 yH (h := ?_)
        refine tkY 8 yH (h := ?_)
        refine tkY 9 yH (h := ?_)
        refine tkY 10 yH (h := ?_)
        refine tkY 11 yH (h := ?_)
        refine tkY 12 yH (h := ?_)
        refine tkY 13 yH (h := ?_)
        refine tkY 14 yH (h := ?_)
        refine tkY 15 yH (h := ?_)
        refine tkY 16 yH (h := ?_)
        refine tkY 17 yH (h := ?_)
        refine tkY 18 yH (h := ?_)
        refine tkY 19 yH (h := ?_)
        refine tkY 20 yH (h := ?_)
        refine tkY 21 yH (h := ?_)
        refine wpAnyH_ready (rs := [22]) (by kernel_rfl) (by simp) ?_
        refine AllReadyH.cons (o := ?ooa22) ?hia22 (fun K hK => ?hca22) AllReadyH.nil
        case hia22 => (simp only [List.getElem?_toArray, List.getElem?_cons_zero, List.getElem?_cons_succ]; rfl)
        go_simp
        with_reducible refine (hk.out _ HMd.out).mono ?_
        rintro e w1 ⟨rfl, rfl⟩
        go_wp2_with fail
        refine hK.out _ _ (hY) (fun yH => ?_)
        clear hK K
        try simp only [Act.put, List.setIfInBounds_toArray, List.set_cons_zero, List.set_cons_succ]
        refine tkY 23 yH (h := ?_)
        refine tkY 24 yH (h := ?_)
        refine wpAnyH_done (by kernel_rfl) ?_ _
        go_wp2_with fail
        go_ret2
        exact ⟨rfl, (Fr.refl [] _).drew⟩
      · have b2 : decide ((n : Int) ≤ d) = true := by simp; omega
        have b2' : decide (n ≤ d) = true := by simp; omega
        rw [hI1.out (fun h => h2 h.2.2)]
        clear hI1 hI2 hx h0 hy hr hd h2
        go_enter Tryz.func259, Tryz.ntmps259
        go_wp2_with fail
        refine wp_region_held_drew (S := fun W => W.cell? ⟨1, c, none⟩ = some (.int .i64 s)) (by kernel_rfl) (hY) (fun yH => ?_)
        refine tkY 0 yH (h := ?_)
        refine wpAnyH_ready (rs := [1]) (by kernel_rfl) (by simp) ?_
        refine AllReadyH.cons (o := ?oob1) ?hib1 (fun K hK => ?hcb1) AllReadyH.nil
        case hib1 => (simp only [List.getElem?_toArray, List.getElem?_cons_zero, List.getElem?_cons_succ]; rfl)
        go_simp
        with_reducible refine (hi _).mono ?_
        rintro e w1 ⟨rfl, rfl⟩
        go_wp2_with fail
        refine hK.out _ _ (hY) (fun yH => ?_)
        clear hK K
        try simp only [Act.put, List.setIfInBounds_toArray, List.set_cons_zero, List.set_cons_succ]
        refine tkY 2 yH (h := ?_)
        refine tkY 3 yH (h := ?_)
        refine tkY 4 yH (h := ?_)
        refine tkY 5 yH (h := ?_)
        refine tkY 6 yH (h := ?_)
        refine tkY 7 yH (h := ?_)
        refine tkY 8 yH (h := ?_)
        refine tkY 9 yH (h := ?_)
        refine tkY 10 yH (h := ?_)
        refine tkY 11 yH (h := ?_)
        refine tkY 12 yH (h := ?_)
        refine tkY 13 yH (h := ?_)
        refine tkY 14 yH (h := ?_)
        refine tkY 15 yH (h := ?_)
        refine tkY 16 yH (h := ?_)
        refine tkY 17 yH (h := ?_)
        refine tkY 18 yH (h := ?_)
        refine tkY 19 yH (h := ?_)
        refine tkY 20 yH (h := ?_)
        refine tkY 21 yH (h := ?_)
        refine wpAnyH_ready (rs := [22]) (by kernel_rfl) (by simp) ?_
        refine AllReadyH.cons (o := ?oob22) ?hib22 (fun K hK => ?hcb22) AllReadyH.nil
        case hib22 => (simp only [List.getElem?_toArray, List.getElem?_cons_zero, List.getElem?_cons_succ]; rfl)
        go_simp
        with_reducible refine (hk.out _ HMd.out).mono ?_
        rintro e w1 ⟨rfl, rfl⟩
        go_wp2_with fail
        refine hK.out _ _ (hY) (fun yH => ?_)
        clear hK K
        try simp only [Act.put, List.setIfInBounds_toArray, List.set_cons_zero, List.set_cons_succ]
        refine tkY 23 yH (h := ?_)
        refine tkY 24 yH (h := ?_)
        refine wpAnyH_done (by kernel_rfl) ?_ _
        go_wp2_with fail
        go_ret2
        exact ⟨rfl, (Fr.refl [] _).drew⟩
    · have b1 : ((r : Int) != 0) = true := by simp; omega
      rw [hI1.out (fun h => h1 h.2.1)]
      clear hI1 hI2 hx h0 hy hr hd h1
      go_enter Tryz.func259, Tryz.ntmps259
      go_wp2_with fail
      refine wp_region_held_drew (S := fun W => W.cell? ⟨1, c, none⟩ = some (.int .i64 s)) (by kernel_rfl) (hY) (fun yH => ?_)
      refine tkY 0 yH (h := ?_)
      refine wpAnyH_ready (rs := [1]) (by kernel_rfl) (by simp) ?_
      refine AllReadyH.cons (o := ?ooc1) ?hic1 (fun K hK => ?hcc1) AllReadyH.nil
      case hic1 => (simp only [List.getElem?_toArray, List.getElem?_cons_zero, List.getElem?_cons_succ]; rfl)
      go_simp
      with_reducible refine (hi _).mono ?_
      rintro e w1 ⟨rfl, rfl⟩
      go_wp2_with fail
      refine hK.out _ _ (hY) (fun yH => ?_)
      clear hK K
      try simp only [Act.put, List.setIfInBounds_toArray, List.set_cons_zero, List.set_cons_succ]
      refine tkY 2 yH (h := ?_)
      refine tkY 3 yH (h := ?_)
      refine tkY 4 yH (h := ?_)
      refine tkY 5 yH (h := ?_)
      refine tkY 6 yH (h := ?_)
      refine tkY 7 yH (h := ?_)
      refine tkY 8 yH (h := ?_)
      refine tkY 9 yH (h := ?_)
      refine tkY 10 yH (h := ?_)
      refine tkY 11 yH (h := ?_)
      refine tkY 12 yH (h := ?_)
      refine tkY 13 yH (h := ?_)
      refine tkY 14 yH (h := ?_)
      refine tkY 15 yH (h := ?_)
      refine tkN 16 yH (h := ?_)
      refine tkN 17 yH (h := ?_)
      refine tkN 18 yH (h := ?_)
      refine tkN 19 yH (h := ?_)
      refine tkN 20 yH (h := ?_)
      refine tkN 21 yH (h := ?_)
      refine tkN 22 yH (h := ?_)
      refine tkN 23 yH (h := ?_)
      refine tkY 24 yH (h := ?_)
      refine wpAnyH_done (by kernel_rfl) ?_ _
      go_wp2_with fail
      go_ret2
      exact ⟨rfl, (Fr.refl [] _).drew⟩
  · have b0 : decide (x < 0) = true := by simp; omega
    rw [hI1.out (fun h => h0 h.1)]
    clear hI1 hI2 hx h0
    go_enter Tryz.func259, Tryz.ntmps259
    go_wp2_with fail
    refine wp_region_held_drew (S := fun W => W.cell? ⟨1, c, none⟩ = some (.int .i64 s)) (by kernel_rfl) (hY) (fun yH => ?_)
    refine tkY 0 yH (h := ?_)
    refine wpAnyH_ready (rs := [1]) (by kernel_rfl) (by simp) ?_
    refine AllReadyH.cons (o := ?ood1) ?hid1 (fun K hK => ?hcd1) AllReadyH.nil
    case hid1 => (simp only [List.getElem?_toArray, List.getElem?_cons_zero, List.getElem?_cons_succ]; rfl)
    go_simp
    with_reducible refine (hi _).mono ?_
    rintro e w1 ⟨rfl, rfl⟩
    go_wp2_with fail
    refine hK.out _ _ (hY) (fun yH => ?_)
    clear hK K
    try simp only [Act.put, List.setIfInBounds_toArray, List.set_cons_zero, List.set_cons_succ]
    refine tkY 2 yH (h := ?_)
    refine tkY 3 yH (h := ?_)
    refine tkY 4 yH (h := ?_)
    refine tkY 5 yH (h := ?_)
    refine tkY 6 yH (h := ?_)
    refine tkY 7 yH (h := ?_)
    refine tkN 8 yH (h := ?_)
    refine tkN 9 yH (h := ?_)
    refine tkN 10 yH (h := ?_)
    refine tkN 11 yH (h := ?_)
    refine tkN 12 yH (h := ?_)
    refine tkN 13 yH (h := ?_)
    refine tkY 14 yH (h := ?_)
    refine tkY 15 yH (h := ?_)
    refine tkN 16 yH (h := ?_)
    refine tkN 17 yH (h := ?_)
    refine tkN 18 yH (h := ?_)
    refine tkN 19 yH (h := ?_)
    refine tkN 20 yH (h := ?_)
    refine tkN 21 yH (h := ?_)
    refine tkN 22 yH (h := ?_)
    refine tkN 23 yH (h := ?_)
    refine tkY 24 yH (h := ?_)
    refine wpAnyH_done (by kernel_rfl) ?_ _
    go_wp2_with fail
    go_ret2
    exact ⟨rfl, (Fr.refl [] _).drew⟩
theorem vblank1 (w : World) (b : Nat) : Calls Tryz.prog 258 #[.int .u8 b] w fun e w' => e = .returned (.bool (!(b == 0))) ∧ w' = w := by
  by_cases h : b = 0
  · subst h
    go_enter Tryz.func258, Tryz.ntmps258
    go_wp2_with fail
    go_ret
    exact ⟨rfl, rfl⟩
  · have h1 : (((b : Nat) : Int) != 0) = true := by simp; omega
    rw [show (!(b == 0)) = true by simp [h]]
    clear h
    go_enter Tryz.func258, Tryz.ntmps258
    go_wp2_with fail
    go_ret
    exact ⟨rfl, rfl⟩
/-- All from a place on are noughts. -/
def zrB (l : List Nat) : Bool := l.all (· == 0)
set_option maxRecDepth 100000 in
set_option maxHeartbeats 2000000 in
theorem bidx (w : World) (a : Option Addr) (c : Nat) (l : List Nat) (h : Byt w a l) :
    Calls Tryz.prog 263 #[.slice a l.length c, .func (.func 258) #[] #[]] w fun e w' => w' = w ∧ ((zrB l = true ∧ e = .returned (.int .i64 (-1))) ∨ (zrB l = false ∧ ∃ k : Nat, e = .returned (.int .i64 k))) := by
  have HZ := Lib.hid h
  have hlen := h.len
  clear h
  generalize hN : l.length = N at *
  have HN := Lib.hid hN
  obtain ⟨T, hT⟩ : ∃ T, zrB l = T := ⟨_, rfl⟩
  rw [hT]
  have HT := Lib.hid hT
  clear hN hT
  obtain ⟨P, hP⟩ : ∃ P : Ending → World → Prop, P = fun e w' => w' = w ∧ ((T = true ∧ e = .returned (.int .i64 (-1))) ∨ (T = false ∧ ∃ k : Nat, e = .returned (.int .i64 k))) := ⟨_, rfl⟩
  rw [← hP]
  have HP := Lib.hid hP
  clear hP
  go_enter Tryz.func263, Tryz.ntmps263
  go_wp2_with fail
  go_loopw [8] (fun v W => ∃ (k : Nat), k ≤ N ∧ v = .int .i64 k ∧ zrB (l.drop k) = T ∧ W = w) (fun v _ => N - (intOf v).toNat)
  case atStart => exact ⟨0, by omega, rfl, HT.out, rfl⟩
  case round =>
    obtain ⟨k, hk, rfl, ht, rfl⟩ := hrel
    by_cases hlt : k < N
    · obtain ⟨g, o, rfl, hc, hg⟩ := HZ.out.at_ k (by rw [HN.out]; exact hlt)
      obtain ⟨x, hr⟩ : ∃ r, l[k]? = some r := ⟨_, List.getElem?_eq_getElem (by rw [HN.out]; exact hlt)⟩
      rw [hr] at hc
      have hc : wr.cell? ⟨g, o + k, none⟩ = some (.int .u8 (x : Int)) := hc
      have ht : ((x == 0) && zrB (l.drop (k + 1))) = T := by rw [← ht, drop_at hr]; rfl
      have hb := fun W => vblank1 W x
      have b0 : decide ((k : Int) < N) = true := by simp; omega
      have b0' : decide (k < N) = true := by simp; omega
      have wk : IntKind.i64.wrap ((k : Int) + 1) = (k : Int) + 1 := IntWalk.i64_in _ (by omega)
      have i0 : (0 : Int) ≤ k := by omega
      have i1 : (k : Int) < N := by omega
      have HTt := Lib.hid ht
      clear ht HT
      generalize (x == 0) = p at *
      cases p
      · go_wp2_with fail
        with_reducible refine (hb _).mono ?_
        rintro e w1 ⟨rfl, rfl⟩
        go_wp2_with fail
        rw [HP.out]
        exact ⟨rfl, .inr ⟨by rw [← HTt.out]; rfl, k, rfl⟩⟩
      · go_wp2_with fail
        with_reducible refine (hb _).mono ?_
        rintro e w1 ⟨rfl, rfl⟩
        go_wp2_with fail
        go_roundw
        case rel => exact ⟨k + 1, by omega, by go_num, by rw [← HTt.out]; simp, by first | rfl | trivial⟩
        case measure => simp [intOf]; omega
    · obtain rfl : k = N := by omega
      have b0 : decide ((k : Int) < k) = false := by simp
      have b0' : decide (k < k) = false := by simp
      have HTt := Lib.hid ht
      clear ht
      go_wp2_with fail
      rw [HP.out]
      exact ⟨rfl, .inl ⟨by rw [← HTt.out, drop_end HN.out]; rfl, rfl⟩⟩
set_option maxHeartbeats 2000000 in
theorem bcont (w : World) (a : Option Addr) (c : Nat) (l : List Nat) (h : Byt w a l) :
    Calls Tryz.prog 257 #[.slice a l.length c, .func (.func 258) #[] #[]] w fun e w' => e = .returned (.bool (!zrB l)) ∧ w' = w := by
  have hx := bidx w a c l h
  clear h
  generalize l.length = N at *
  generalize zrB l = T at *
  go_enter Tryz.func257, Tryz.ntmps257
  go_wp2_with fail
  with_reducible refine hx.mono ?_
  rintro e w1 ⟨rfl, ⟨rfl, rfl⟩ | ⟨rfl, k, rfl⟩⟩
  · have b0 : decide ((0 : Int) ≤ -1) = false := by decide
    go_wp2_with fail
    go_ret
    exact ⟨rfl, rfl⟩
  · have b0 : decide ((0 : Int) ≤ k) = true := by simp
    go_wp2_with fail
    go_ret
    exact ⟨rfl, rfl⟩
theorem Byt.sub {w : World} {g o : Nat} {l : List Nat} (h : Byt w (some ⟨g, o, none⟩) l) (x n : Nat) (hn : x + n ≤ l.length) : Byt w (some ⟨g, o + x, none⟩) ((l.drop x).take n) := by
  have hl : ((l.drop x).take n).length = n := by simp; omega
  refine ⟨fun i hi => ?_, fun b hb => h.byte b (List.mem_of_mem_drop (List.mem_of_mem_take hb)), by have := h.len; omega⟩
  obtain ⟨g', o', e, hc, hg⟩ := h.at_ (x + i) (by omega)
  injection e with e; injection e with e1 e2; subst e1 e2
  refine ⟨g, o + x, rfl, ?_, hg⟩
  rw [show o + x + i = o + (x + i) by omega, hc, List.getElem?_take, if_pos (by omega), List.getElem?_drop]
section
variable {wb w : World} {pv a s gi ci : Nat} {im : List Nat} {L : List Rn}
set_option maxRecDepth 100000 in
set_option maxHeartbeats 2000000 in
theorem vblank (h : VW wb pv a s gi ci im L w) (i : Nat) (hi : i < a) : Calls Tryz.prog 235 #[.pointer (some ⟨pv, 0, none⟩), .int .i64 i] w fun e w' => e = .returned (.bool (zeroM im (lbase a s + 1024 * i))) ∧ Fr [] w w' := by
  have hl := lslabat h.tab a s h.cfg i hi
  have hz := lsize_le a s h.cfg
  have hlen := h.len
  have hnn : im.length ≤ 131072 := by rw [hlen]; exact hz
  have hsz : lbase a s + 1024 * i + 1024 ≤ im.length := by rw [hlen]; unfold lsize; omega
  have hci := h.hc
  have HB := Lib.hid (fun W (hf : Fr [] w W) => bcont W _ (ci - (lbase a s + 1024 * i)) _ ((h.fr0 hf).img.sub (lbase a s + 1024 * i) 1024 hsz))
  have e1 : ((im.drop (lbase a s + 1024 * i)).take 1024).length = 1024 := by simp; omega
  rw [e1, Nat.zero_add] at HB
  have e2 : zrB ((im.drop (lbase a s + 1024 * i)).take 1024) = zeroM im (lbase a s + 1024 * i) := rfl
  rw [e2] at HB
  obtain ⟨vr, hB, hO⟩ := h.st
  have HBl := Lib.hid hB
  have d0 := hB.cell 0
  have d1 := hB.cell 1
  have d2 := hB.cell 2
  simp at d0 d1 d2
  unfold cfgV at hl
  generalize zeroM im (lbase a s + 1024 * i) = T at *
  generalize lbase a s + 1024 * i = b at *
  generalize im.length = n at *
  clear h hB hO e1 e2 hlen
  have g1 : (0 : Int) ≤ b := by omega
  have g2 : (b : Int) ≤ b + 1024 := by omega
  have g3 : (b : Int) + 1024 ≤ ci := by omega
  have g4 : IntKind.i64.wrap ((b : Int) + 1024) = (b : Int) + 1024 := IntWalk.i64_in _ (by omega)
  go_enter Tryz.func235, Tryz.ntmps235
  go_wp2_with fail
  with_reducible refine hl.mono ?_
  rintro e w1 ⟨rfl, f1⟩
  have t2 := (HBl.out.fr f1 (by simp)).cell 2
  simp at t2
  clear d0 d1 d2 hl
  go_wp2_with fail
  with_reducible refine (HB.out _ f1).mono ?_
  rintro e w2 ⟨rfl, rfl⟩
  go_wp2_with fail
  go_ret
  exact ⟨by simp, f1⟩
end
end Go.Proofs.YtgoogihfggndpaaGreatDoor

/- region: a map of the blocks of a slab that no link leads to. -/
namespace Go.Proofs.YtgoogihfggndpaaGreatDoor
set_option linter.unusedVariables false
set_option linter.unusedSimpArgs false
open Go.RowKit Go.Maps

theorem lawInt : Keyed Tryz.prog 3 := int_keyed Tryz.underlying3
theorem zeroInt (w : World) : (zeroValue 3).run Tryz.prog w = .ok (.int .i64 0) w := by kernel_rfl
abbrev KL (j : Nat) : Lit := .int .i64 (j : Int)
theorem keyInt (j : Nat) (h : j ≤ 9223372036854775807) : keyOf Tryz.prog 3 (.int .i64 (j : Int)) = some (KL j) := keyOf_int_mk Tryz.underlying3 (WalkArith.wf_i64 (by omega))
/-- A map of numbers: which there are, and how many. -/
def MapN (W : World) (B : Nat) (p : Nat → Bool) (n : Nat) : Prop := ∃ (D : DataW Unit), W.ownsMap Tryz.prog 3 (plainElem Tryz.prog 3) B n D ∧ (∀ j : Nat, Maps.has D (KL j) = p j) ∧ Maps.size D = n
def mapSz (W : World) (B : Nat) : Nat := match W.heap[B]? with | some (.map es _) => es.size | _ => 0
theorem MapN.sz {W : World} {B n : Nat} {p : Nat → Bool} (h : MapN W B p n) : mapSz W B = n := by
  obtain ⟨D, ⟨es, cl, hb, F, _, rfl⟩, _, hs⟩ := h
  rw [size_eq, length_read] at hs
  unfold mapSz
  rw [hb]; exact hs
theorem KL_inj {j k : Nat} (h : j ≠ k) : KL j ≠ KL k := fun e => by
  injection e with _ e
  omega
theorem MapN.fr {W W' : World} {B n : Nat} {p : Nat → Bool} {S : List Nat} (h : MapN W B p n) (hf : Fr S W W') (hB : B ∉ S) : MapN W' B p n := by
  obtain ⟨D, ⟨es, cl, hb, F, hn, hD⟩, hh, hs⟩ := h
  have hlt : B < W.heap.size := by
    rcases Nat.lt_or_ge B W.heap.size with h | h
    · exact h
    · rw [Array.getElem?_eq_none h] at hb; cases hb
  exact ⟨D, ⟨es, cl, (hf.block B hlt hB).trans hb, F, hn, hD⟩, hh, hs⟩
theorem isKL (j : Nat) : WideAt.IsKeyLit (KL j) := trivial
theorem ownsMap_size {W : World} {B m : Nat} {D : DataW Unit} (h : W.ownsMap Tryz.prog 3 (plainElem Tryz.prog 3) B m D) : W.ownsMap Tryz.prog 3 (plainElem Tryz.prog 3) B (Maps.size D) D := by
  obtain ⟨es, cl, hb, F, _, rfl⟩ := h
  exact ⟨es, cl, hb, F, by rw [size_eq, length_read]; exact Nat.le_refl _, rfl⟩
theorem MapN.put {D : DataW Unit} {W' : World} {B m n k : Nat} {p : Nat → Bool} {d : DataW Unit} (ht : Tidy D) (h : W'.ownsMap Tryz.prog 3 (plainElem Tryz.prog 3) B m (D.put (KL k) d)) (hp : ∀ j, Maps.has D (KL j) = p j) (hs : Maps.size D = n) (hk : p k = false) :
    MapN W' B (fun j => decide (j = k) || p j) (n + 1) := by
  have e : Maps.size (D.put (KL k) d) = n + 1 := by rw [size_put ht, hp, hk, hs]; rfl
  refine ⟨_, by rw [← e]; exact ownsMap_size h, fun j => ?_, e⟩
  by_cases e : j = k
  · subst e
    rw [has_put_same ht.isMap (isKL _)]; simp
  · rw [has_put_other (KL_inj e), hp]; simp [e]
theorem MapN.del {D : DataW Unit} {W' : World} {B m n k : Nat} {p : Nat → Bool} (ht : Tidy D) (h : W'.ownsMap Tryz.prog 3 (plainElem Tryz.prog 3) B m (D.del (KL k))) (hp : ∀ j, Maps.has D (KL j) = p j) (hs : Maps.size D = n) (hk : p k = true) :
    MapN W' B (fun j => !decide (j = k) && p j) (n - 1) := by
  have e : Maps.size (D.del (KL k)) = n - 1 := by
    have := size_del (D := D) (k := KL k) ht
    rw [hp, hk, hs] at this
    simp at this
    omega
  refine ⟨_, by rw [← e]; exact ownsMap_size h, fun j => ?_, e⟩
  by_cases e : j = k
  · subst e
    rw [has_del_same]; simp
  · rw [has_del_other (KL_inj e), hp]; simp [e]
theorem MapN.pos {D : DataW Unit} {n k : Nat} {p : Nat → Bool} (ht : Tidy D) (hp : ∀ j, Maps.has D (KL j) = p j) (hs : Maps.size D = n) (hk : p k = true) : 0 < n := by
  have := size_del (D := D) (k := KL k) ht
  rw [hp, hk, hs] at this
  simp at this
  omega
theorem MapN.congr {W : World} {B n m : Nat} {p q : Nat → Bool} (h : MapN W B p n) (hq : ∀ j, p j = q j) (hn : n = m) : MapN W B q m := by
  subst hn
  obtain ⟨D, h1, h2, h3⟩ := h
  exact ⟨D, h1, fun j => (h2 j).trans (hq j), h3⟩
theorem frGrown {w W W' : World} {B : Nat} (hf : Fr [] w W) (hg : W.grownBy W' (some B)) (hB : w.heap.size ≤ B) : Fr [] w W' :=
  ⟨hg.os.trans hf.os, hg.tape.trans hf.tape, hg.output.trans hf.output, Nat.le_trans hf.size hg.size, fun k hk hn => (hg.block k (Nat.lt_of_lt_of_le hk hf.size) (fun e => by injection e with e; omega)).trans (hf.block k hk hn)⟩
/-- The blocks that are left. -/
def leftP (n : Nat) (seen : List Nat) (j : Nat) : Bool := decide (j < n) && !decide (j ∈ seen)
section
variable {wb w : World} {pv a s gi ci : Nat} {im : List Nat} {L : List Rn}
def UsedP (w : World) (im : List Nat) (b c f i : Nat) (e : Ending) (w' : World) : Prop := Fr [] w w' ∧ match chaseL im b c (nbk c + 1) f [] with
  | none => e = .returned (.tuple #[.map none, .iface 225 (.agg #[.int .i64 i])])
  | some seen => ∃ B, e = .returned (.tuple #[.map (some B), .nilIface]) ∧ MapN w' B (leftP (nbk c) seen) (nbk c - seen.length) ∧ w.heap.size ≤ B ∧ seen.length ≤ nbk c
set_option maxRecDepth 100000 in
set_option maxHeartbeats 8000000 in
theorem vused (h : VW wb pv a s gi ci im L w) (i c f : Nat) (hi : i < a) (hc : 1 ≤ c ∧ c ≤ 9) (hf : f < 4294967296) :
    Calls Tryz.prog 236 #[.pointer (some ⟨pv, 0, none⟩), .int .i64 i, .int .i64 c, .int .i64 f] w (UsedP w im (lbase a s + 1024 * i) c f i) := by
  have hmm := @run_makeMap Tryz.prog
  have HV := Lib.hid (fun W (hf : Fr [] w W) => h.fr0 hf)
  have hbl := (h.fr0 (Fr.refl [] w).drew).tab
  have HBk := Lib.hid (fun W (hf : Fr [] w W) => cblocks (h.fr0 hf).tab c)
  rw [show nbkZ (c : Int) = nbk c from nbkZ_nat c hc.2] at HBk
  have HSl := Lib.hid (fun W (hf : Fr [] w W) => lslabat (h.fr0 hf).tab a s h.cfg i hi)
  unfold cfgV at HSl
  have hlen := h.len
  have hz := lsize_le a s h.cfg
  have hsz := cfg_sizes h.cfg
  have HIx := Lib.hid (fun W (hf : Fr [] w W) (f : Nat) (h1 : f ≤ 4294967296) (x : Int) (hx : x = (f : Int) - (lbase a s + 1024 * i : Nat)) => cindex (h.fr0 hf).tab c (lbase a s + 1024 * i) f hc h1 x hx (by unfold lsize at hz; omega))
  have ht := csz_tab c hc.1 hc.2
  have HNm := Lib.hid (fun W (hf : Fr [] w W) (k : Nat) (hk : k < nbk c) => vnum (h.fr0 hf) (lbase a s + 1024 * i + csz c * k + 4) 4 (.inr rfl) (by
    have : csz c * k % 16 = 0 := by rw [Nat.mul_mod, ht.1]; simp
    omega) (by
    have : csz c * k + csz c ≤ csz c * nbk c := by rw [← Nat.mul_succ]; exact Nat.mul_le_mul (Nat.le_refl _) hk
    rw [hlen]; unfold lsize; omega))
  have HLt := Lib.hid (fun x => imN_lt (l := im) (x := x) (k := 4) (.inr rfl) h.img0.byte)
  have HId := Lib.hid (fun f k (h : idxN (lbase a s + 1024 * i) c f = some k) => idxN_lt h)
  have hbb : lbase a s + 1024 * i ≤ 131072 := by unfold lsize at hz; omega
  obtain ⟨P, hP⟩ : ∃ P, UsedP w im (lbase a s + 1024 * i) c f i = P := ⟨_, rfl⟩
  rw [hP]
  have hR0 : ∃ R, chaseL im (lbase a s + 1024 * i) c (nbk c + 1) f [] = R := ⟨_, rfl⟩
  obtain ⟨R, hR⟩ := hR0
  unfold UsedP at hP
  rw [hR] at hP
  have HP := Lib.hid hP.symm
  obtain ⟨vr, hB, hO⟩ := h.st
  have HBl := Lib.hid hB
  have hn2 : nbk c ≤ 32 := by omega
  have HCh := Lib.hid (show ∀ m f seen, chaseL im (lbase a s + 1024 * i) c (m + 1) f seen = if f = 0 then some seen else match idxN (lbase a s + 1024 * i) c f with
    | none => none
    | some k => if k ∈ seen then none else chaseL im (lbase a s + 1024 * i) c m (imN im (f + 4) 4) (k :: seen) from fun _ _ _ => rfl)
  generalize lbase a s + 1024 * i = b at *
  generalize nbk c = n at *
  clear h hP hB hO hbl hlen hz hsz ht
  go_enter Tryz.func236, Tryz.ntmps236
  go_wp2_with fail
  with_reducible refine (HBk.out _ ((Fr.refl [] w).alloc _)).mono ?_
  rintro e w1 ⟨rfl, rfl⟩
  go_wp2_with fail
  go_loopw [19] (fun v W => ∃ k : Nat, k ≤ n ∧ v = .int .i64 k ∧ MapN W w.heap.size (fun j => decide (j < k)) k ∧ Fr [] w W) (fun v _ => n - (intOf v).toNat)
  case atStart => exact ⟨0, by omega, rfl, ⟨.map [], World.ownsMap_made _ _ _ _, fun j => by simp [Maps.has], rfl⟩, (Fr.refl [] w).alloc _⟩
  case round =>
    obtain ⟨k, hk, rfl, ⟨D, hown, hp, hs⟩, hF⟩ := hrel
    have HF := Lib.hid hF
    clear hF
    by_cases hlt : k < n
    · have b0 : decide ((k : Int) < n) = true := by simp; omega
      have b0' : decide (k < n) = true := by simp; omega
      have wk : IntKind.i64.wrap ((k : Int) + 1) = (k : Int) + 1 := IntWalk.i64_in _ (by omega)
      have hkey := keyInt k (by omega)
      have hTd := hown.tidy lawInt
      have hpp := Lib.hid hp
      have hss := Lib.hid hs
      clear hp hs
      go_wp2_with (first | (at_mapUpdate; refine wpList_mapUpdate_own _ rfl _ _ _ 259 rfl 3 3 lawInt Tryz.underlying259 _ w.heap.size k D rfl hown (by unfold maxLen; omega) _ _ _ rfl rfl hkey _ [] (plainElem_int Tryz.underlying3 (WalkArith.wf_i64 (by omega))) ?_; intro w1 hown1 hgrow1) | fail)
      go_roundw
      case rel => exact ⟨k + 1, by omega, by go_num, (MapN.put hTd hown1 hpp.out hss.out (by simp)).congr (fun j => by rw [Bool.eq_iff_iff]; simp; omega) rfl, frGrown HF.out hgrow1 (Nat.le_refl _)⟩
      case measure => simp [intOf]; omega
    · obtain rfl : k = n := by omega
      have b0 : decide ((k : Int) < k) = false := by simp
      have b0' : decide (k < k) = false := by simp
      have hM0 : MapN wr w.heap.size (leftP k []) (k - ([] : List Nat).length) := MapN.congr ⟨D, hown, hp, hs⟩ (fun j => by simp [leftP]) rfl
      clear hown hp hs
      go_wp2_with fail
      go_loopw [3] (fun u W => ∃ (f : Nat) (seen : List Nat), u = .int .i64 f ∧ f < 4294967296 ∧ seen.length ≤ k ∧ MapN W w.heap.size (leftP k seen) (k - seen.length) ∧ chaseL im b c (k - seen.length + 1) f seen = R ∧ Fr [] w W) (fun _ W => mapSz W w.heap.size)
      case atStart => exact ⟨f, [], rfl, hf, by simp, hM0, hR, HF.out⟩
      case round =>
        clear hM0 hR HF
        obtain ⟨f', seen, rfl, hf', hsl, hM, hch, hF⟩ := hrel
        have HF := Lib.hid hF
        have HM := Lib.hid hM
        rw [HCh.out] at hch
        clear hF
        by_cases h0 : f' = 0
        · subst h0
          have HR := Lib.hid (show some seen = R from by rw [← hch]; rfl)
          have b1 : (((0 : Nat) : Int) != 0) = false := by simp
          clear hch hM
          go_wp2_with fail
          rw [HP.out, ← HR.out]
          exact ⟨HF.out, _, rfl, HM.out, Nat.le_refl _, hsl⟩
        · have b1 : ((f' : Int) != 0) = true := by simp; omega
          rw [if_neg h0] at hch
          have hwr : IntKind.i64.wrap ((f' : Int) - b) = (f' : Int) - b := IntWalk.i64_in _ (by omega)
          have hsz0 := HM.out.sz
          obtain ⟨D, hown, hp, hs⟩ := hM
          have hTd := hown.tidy lawInt
          have HTd := Lib.hid (And.intro hTd (And.intro hp hs))
          have HX := Lib.hid (fun W (hf : Fr [] w W) => HIx.out W hf f' (by omega) ((f' : Int) - b) rfl)
          have hvt := ((HV.out _ HF.out).st)
          obtain ⟨vr', hB', -⟩ := hvt
          have e0 := hB'.cell 0
          have e1 := hB'.cell 1
          simp at e0 e1
          have hId := HId.out f'
          generalize hI : idxN b c f' = I at *
          clear hTd hB'
          cases I with
          | none =>
            have HR := Lib.hid (show none = R from hch)
            have hkey := keyInt 0 (by omega)
            simp only at HX
            clear hch
            go_wp2_with fail
            with_reducible refine (HSl.out _ HF.out).mono ?_
            rintro e w2 ⟨rfl, f2⟩
            go_wp2_with fail
            with_reducible refine (HX.out _ (HF.out.trans f2)).mono ?_
            rintro e w3 ⟨rfl, f3⟩
            have hM3 := HM.out.fr (f2.trans f3) (by simp)
            obtain ⟨D3, hown3, hp3, hs3⟩ := hM3
            clear hown
            go_wp2_with (first | (at_lookup; refine wpList_lookup_own_ok_int _ rfl _ _ 259 rfl 3 3 .i64 lawInt Tryz.underlying259 Tryz.underlying3 (zeroInt _) w.heap.size _ D3 rfl hown3 _ _ rfl hkey ?_; intro c3 hat hwc; clear hat hwc) | fail)
            rw [HP.out, ← HR.out]
            exact ⟨HF.out.trans (f2.trans f3), rfl⟩
          | some j =>
            obtain ⟨hj, hfj⟩ := hId j rfl
            have hkey := keyInt j (by omega)
            have hch : (if j ∈ seen then none else chaseL im b c (k - seen.length) (imN im (f' + 4) 4) (j :: seen)) = R := hch
            simp only at HX
            clear hId
            by_cases hin : j ∈ seen
            · rw [if_pos hin] at hch
              have HR := Lib.hid hch
              have hlj : leftP k seen j = false := by simp [leftP, hin]
              clear hch hfj
              go_wp2_with fail
              with_reducible refine (HSl.out _ HF.out).mono ?_
              rintro e w2 ⟨rfl, f2⟩
              go_wp2_with fail
              with_reducible refine (HX.out _ (HF.out.trans f2)).mono ?_
              rintro e w3 ⟨rfl, f3⟩
              have hM3 := HM.out.fr (f2.trans f3) (by simp)
              obtain ⟨D3, hown3, hp3, hs3⟩ := hM3
              have hp3 := hp3 j
              rw [hlj] at hp3
              clear hown
              go_wp2_with (first | (at_lookup; refine wpList_lookup_own_ok_int _ rfl _ _ 259 rfl 3 3 .i64 lawInt Tryz.underlying259 Tryz.underlying3 (zeroInt _) w.heap.size _ D3 rfl hown3 _ _ rfl hkey ?_; intro c3 hat hwc; clear hat hwc; rw [hp3]) | fail)
              rw [HP.out, ← HR.out]
              exact ⟨HF.out.trans (f2.trans f3), rfl⟩
            · rw [if_neg hin] at hch
              have hlj : leftP k seen j = true := by simp [leftP, hin]; exact hj
              have hpos : 0 < k - seen.length := MapN.pos HTd.out.1 HTd.out.2.1 HTd.out.2.2 hlj
              have hnum := Lib.hid (fun W (hf : Fr [] w W) => HNm.out W hf j hj (f' + 4) 4 (by omega) rfl)
              rw [← hfj] at hnum
              have hlt4 := HLt.out (f' + 4)
              have w4 : IntKind.i64.wrap ((f' : Int) + 4) = (f' : Int) + 4 := IntWalk.i64_in _ (by omega)
              generalize imN im (f' + 4) 4 = N at *
              have HCH := Lib.hid (show chaseL im b c (k - (j :: seen).length + 1) N (j :: seen) = R from by
                rw [← hch, List.length_cons, show k - (seen.length + 1) + 1 = k - seen.length by omega])
              have HIN := Lib.hid hin
              clear hch hfj hin
              go_wp2_with fail
              with_reducible refine (HSl.out _ HF.out).mono ?_
              rintro e w2 ⟨rfl, f2⟩
              go_wp2_with fail
              with_reducible refine (HX.out _ (HF.out.trans f2)).mono ?_
              rintro e w3 ⟨rfl, f3⟩
              have hM3 := HM.out.fr (f2.trans f3) (by simp)
              obtain ⟨D3, hown3, hp3', hs3⟩ := hM3
              have HPS := Lib.hid (And.intro hp3' hs3)
              have hp3 := hp3' j
              rw [hlj] at hp3
              have HT3 := Lib.hid (hown3.tidy lawInt)
              have F3 := Lib.hid (HF.out.trans (f2.trans f3))
              clear hown hp3' hs3
              go_wp2_with (first | (at_lookup; refine wpList_lookup_own_ok_int _ rfl _ _ 259 rfl 3 3 .i64 lawInt Tryz.underlying259 Tryz.underlying3 (zeroInt _) w.heap.size _ D3 rfl hown3 _ _ rfl hkey ?_; intro c3 hat hwc; clear hat hwc; rw [hp3]) | (at_delete; refine wpList_delete_own _ rfl _ _ 259 3 rfl 3 lawInt Tryz.underlying259 _ w.heap.size _ D3 rfl hown3 _ _ rfl hkey ?_; intro w4 hown4 hturn4) | fail)
              have F4 := Lib.hid (frGrown F3.out hturn4.grown (Nat.le_refl _))
              have hMd := Lib.hid (MapN.del HT3.out hown4 HPS.out.1 HPS.out.2 hlj)
              clear hown3 hown4 hturn4
              with_reducible refine (hnum.out _ F4.out).mono ?_
              rintro e w5 ⟨rfl, rfl⟩
              go_wp2_with fail
              go_roundw
              case rel =>
                refine ⟨N, j :: seen, rfl, hlt4, by simp; omega, hMd.out.congr (fun x => ?_) (by simp; omega), HCH.out, F4.out⟩
                simp only [leftP, List.mem_cons]
                rw [Bool.eq_iff_iff]
                simp
                grind
              case measure =>
                rw [hMd.out.sz]; omega
end
end Go.Proofs.YtgoogihfggndpaaGreatDoor

/- region: a slab is gone through. -/
namespace Go.Proofs.YtgoogihfggndpaaGreatDoor
set_option linter.unusedVariables false
set_option linter.unusedSimpArgs false
open Go.RowKit Go.Maps

theorem lastEnd_app (l : List Rn) {m : List Rn} (h : m ≠ []) : lastEnd (l ++ m) = lastEnd m := by
  rcases List.eq_nil_or_concat m with rfl | ⟨M, x, rfl⟩
  · exact absurd rfl h
  · rw [List.concat_eq_append, ← List.append_assoc, lastEnd, lastEnd, List.getLast?_concat, List.getLast?_concat]
theorem map_blk_end (b c : Nat) (seen : List Nat) (k : Nat) : lastEnd ((List.range (k + 1)).map (blkM b c seen)) = b + csz c * (k + 1) := by
  rw [List.range_succ, List.map_append, List.map_singleton, lastEnd, List.getLast?_concat]
  show b + csz c * k + csz c = _
  rw [Nat.mul_succ]; omega
theorem MapN.lay {W W' : World} {B n pv : Nat} {p : Nat → Bool} (h : MapN W B p n) (hl : LayF pv W W') (hB : B ≠ pv) : MapN W' B p n := by
  obtain ⟨S, hf, hS⟩ := hl
  refine h.fr hf (fun hm => ?_)
  obtain ⟨D, ⟨es, cl, hb, _⟩, _⟩ := h
  rcases hS B hm with e | ⟨cs, hcs⟩
  · exact hB e
  · have := (show W.heap[B]? = some (.cells cs _ (0, 0)) from hcs).symm.trans hb
    injection this with this
    cases this
theorem blkK_end {L : List Rn} {b c : Nat} (seen : List Nat) (hE : lastEnd L = b) : ∀ k, lastEnd (L ++ (List.range k).map (blkM b c seen)) = b + csz c * k
  | 0 => by simpa using hE
  | k + 1 => by rw [lastEnd_app _ (by simp [List.range_succ]), map_blk_end]
theorem blkK_succ (L : List Rn) (b c : Nat) (seen : List Nat) (k : Nat) : L ++ (List.range (k + 1)).map (blkM b c seen) = (L ++ (List.range k).map (blkM b c seen)) ++ [blkM b c seen k] := by
  rw [List.range_succ, List.map_append, List.map_singleton, List.append_assoc]
section
variable {wb w : World} {pv a s gi ci : Nat} {im : List Nat} {L : List Rn}
def SlabP (wb : World) (pv a s gi ci : Nat) (im : List Nat) (L : List Rn) (i : Nat) (e : Ending) (w' : World) : Prop := match slabM im (hdAt i) (lbase a s + 1024 * i) with
  | none => e = .returned (.iface 225 (.agg #[.int .i64 i])) ∧ Fr [pv] wb w'
  | some rs => e = .returned .nilIface ∧ VW wb pv a s gi ci im (L ++ rs) w'
set_option maxRecDepth 100000 in
set_option maxHeartbeats 8000000 in
theorem vslab (h : VW wb pv a s gi ci im L w) (i : Nat) (hi : i < a) (hE : lastEnd L = lbase a s + 1024 * i) (hL : L.length ≤ 8000) :
    Calls Tryz.prog 183 #[.pointer (some ⟨pv, 0, none⟩), .int .i64 i] w (SlabP wb pv a s gi ci im L i) := by
  have hlen := h.len
  have hz := lsize_le a s h.cfg
  have hsz := cfg_sizes h.cfg
  have hh : hdAt i + 8 ≤ im.length ∧ hdAt i % 4 = 0 ∧ hdAt i ≤ 131072 := by
    have : im.length = lsize a s := hlen
    unfold hdAt lsize at *
    omega
  have HH := Lib.hid (fun W (hf : Fr [] w W) => lhead_any W (h.fr0 hf).tab a s h.cfg i hi)
  unfold cfgV at HH
  have N0 := Lib.hid (fun W (hf : Fr [] w W) => vnum (h.fr0 hf) (hdAt i) 2 (.inl rfl) (by omega) (by omega) (hdAt i) 2 rfl rfl)
  have N1 := Lib.hid (fun W (hf : Fr [] w W) => vnum (h.fr0 hf) (hdAt i + 2) 2 (.inl rfl) (by omega) (by omega) ((hdAt i : Int) + 2) 2 (by omega) rfl)
  have N2 := Lib.hid (fun W (hf : Fr [] w W) => vnum (h.fr0 hf) (hdAt i + 4) 4 (.inr rfl) (by omega) (by omega) ((hdAt i : Int) + 4) 4 (by omega) rfl)
  have l0 := imN_lt (x := hdAt i) (k := 2) (.inl rfl) h.img0.byte
  have l1 := imN_lt (x := hdAt i + 2) (k := 2) (.inl rfl) h.img0.byte
  have l2 := imN_lt (x := hdAt i + 4) (k := 4) (.inr rfl) h.img0.byte
  have HB := Lib.hid (fun W (hf : Fr [] w W) => vblank (h.fr0 hf) i hi)
  have HU := Lib.hid (fun W (hf : Fr [] w W) c f hc hf' => vused (h.fr0 hf) i c f hi hc hf')
  have HV := Lib.hid (fun W (hf : Fr [] w W) => h.fr0 hf)
  have HLay := Lib.hid (fun W L (h : VW wb pv a s gi ci im L W) => vlay h)
  have HTab := Lib.hid (fun W L (h : VW wb pv a s gi ci im L W) => h.tab)
  have HFf := Lib.hid h.f
  have hbb : lbase a s + 1024 * i ≤ 131072 := by unfold lsize at hz; omega
  obtain ⟨P, hP⟩ : ∃ P, SlabP wb pv a s gi ci im L i = P := ⟨_, rfl⟩
  rw [hP]
  unfold SlabP slabM at hP
  obtain ⟨vr, hB, hO⟩ := h.st
  have e0 := hB.cell 0
  have e1 := hB.cell 1
  simp at e0 e1
  generalize hdAt i = hd at *
  generalize lbase a s + 1024 * i = b at *
  generalize imN im hd 2 = C at *
  generalize imN im (hd + 2) 2 = lv at *
  generalize imN im (hd + 4) 4 = fe at *
  have wa : IntKind.i64.wrap ((hd : Int) + 2) = (hd : Int) + 2 := IntWalk.i64_in _ (by omega)
  have wb4 : IntKind.i64.wrap ((hd : Int) + 4) = (hd : Int) + 4 := IntWalk.i64_in _ (by omega)
  have w00 : IntKind.i64.wrap (hd : Int) = (hd : Int) := IntWalk.i64_in _ (by omega)
  clear h hB hO hlen hz hsz
  go_enter Tryz.func183, Tryz.ntmps183
  go_wp2_with fail
  with_reducible refine (HH.out _ (Fr.refl _ _)).mono ?_
  rintro e w1 ⟨rfl, f1⟩
  have F1 := Lib.hid f1
  clear f1
  go_wp2_with fail
  with_reducible refine (N0.out _ F1.out).mono ?_
  rintro e w2 ⟨rfl, rfl⟩
  go_wp2_with fail
  with_reducible refine (N1.out _ F1.out).mono ?_
  rintro e w2 ⟨rfl, rfl⟩
  go_wp2_with fail
  with_reducible refine (N2.out _ F1.out).mono ?_
  rintro e w2 ⟨rfl, rfl⟩
  clear wa wb4 w00 N0 N1 N2 HH e0 e1
  by_cases h9 : 9 < C
  · rw [if_pos h9] at hP
    have HP := Lib.hid hP.symm
    have b9 : decide ((9 : Int) < C) = true := by simp; omega
    have b9' : decide (9 < C) = true := by simp; omega
    clear hP
    go_wp2_with fail
    rw [HP.out]
    exact ⟨rfl, HFf.out.trans F1.out.nil⟩
  rw [if_neg h9] at hP
  have b9 : decide ((9 : Int) < C) = false := by simp; omega
  have b9' : decide (9 < C) = false := by simp; omega
  by_cases h0 : C = 0
  · subst h0
    rw [if_pos rfl] at hP
    have b0 : (((0 : Nat) : Int) == 0) = true := by simp
    by_cases hl : lv = 0
    · subst hl
      have b1 : (((0 : Nat) : Int) != 0) = false := by simp
      by_cases hf : fe = 0
      · subst hf
        have hbl := HB.out _ F1.out
        have hP : (match (if zeroM im b = true then some [(b, 1024, 7)] else none : Option (List Rn)) with
          | none => fun e w' => e = .returned (.iface 225 (.agg #[.int .i64 i])) ∧ Fr [pv] wb w'
          | some rs => fun e w' => e = .returned .nilIface ∧ VW wb pv a s gi ci im (L ++ rs) w') = P := by
          rw [← hP]
          cases zeroM im b <;> rfl
        generalize zeroM im b = z at *
        cases z
        · have HP := Lib.hid hP.symm
          clear hP
          go_wp2_with fail
          with_reducible refine hbl.mono ?_
          rintro e w3 ⟨rfl, f3⟩
          go_wp2_with fail
          rw [HP.out]
          exact ⟨rfl, HFf.out.trans (F1.out.trans f3).nil⟩
        · have HP := Lib.hid hP.symm
          clear hP
          go_wp2_with fail
          with_reducible refine hbl.mono ?_
          rintro e w3 ⟨rfl, f3⟩
          go_wp2_with fail
          with_reducible refine (HLay.out _ _ (HV.out _ (F1.out.trans f3)) 1024 7 (by omega) (by omega) (by omega) 1024 7 rfl rfl).mono ?_
          rintro e w4 ⟨rfl, h4, -⟩
          go_wp2_with fail
          rw [HP.out]
          refine ⟨rfl, ?_⟩
          have : layE L 1024 7 = L ++ [(b, 1024, 7)] := by unfold layE; rw [if_pos (by omega), hE]
          rw [← this]
          exact h4
      · have HP := Lib.hid hP.symm
        have hno : ¬ (0 = 0 ∧ fe = 0 ∧ zeroM im b = true) := fun h => hf h.2.1
        have b2 : ((fe : Int) != 0) = true := by simp; omega
        rw [if_neg hno] at HP
        clear hP
        go_wp2_with fail
        rw [HP.out]
        exact ⟨rfl, HFf.out.trans F1.out.nil⟩
    · have HP := Lib.hid hP.symm
      have hno : ¬ (lv = 0 ∧ fe = 0 ∧ zeroM im b = true) := fun h => hl h.1
      have b1 : ((lv : Int) != 0) = true := by simp; omega
      rw [if_neg hno] at HP
      clear hP
      go_wp2_with fail
      rw [HP.out]
      exact ⟨rfl, HFf.out.trans F1.out.nil⟩
  · rw [if_neg h0] at hP
    have b0 : ((C : Int) == 0) = false := by simp; omega
    have hc : 1 ≤ C ∧ C ≤ 9 := by omega
    have hu := HU.out _ F1.out C fe hc l2
    unfold UsedP at hu
    have hct := csz_tab C hc.1 hc.2
    cases hch : chaseL im b C (nbk C + 1) fe [] with
    | none =>
      rw [hch] at hu hP
      have HP := Lib.hid hP.symm
      clear hP
      go_wp2_with fail
      with_reducible refine hu.mono ?_
      rintro e w3 ⟨f3, rfl⟩
      go_wp2_with fail
      rw [HP.out]
      exact ⟨rfl, HFf.out.trans (F1.out.trans f3).nil⟩
    | some seen =>
      rw [hch] at hu hP
      clear hch
      have HP0 := Lib.hid hP.symm
      clear hP
      go_wp2_with fail
      with_reducible refine hu.mono ?_
      rintro e w3 ⟨f3, B, rfl, hM, hBl, hsl⟩
      have F3 := Lib.hid (F1.out.trans f3)
      have HM := Lib.hid hM
      have hBp : B ≠ pv := by
        have h1 := (HV.out _ (Fr.refl _ _)).lt
        have h2 := HFf.out.size
        have h3 := F1.out.size
        omega
      obtain ⟨D3, hown3, hp3, hs3⟩ := hM
      have hp : (match (if seen.length = nbk C ∨ lv ≠ nbk C - seen.length then none else some ((List.range (nbk C)).map (blkM b C seen) ++ padM b C) : Option (List Rn)) with
          | none => fun e w' => e = .returned (.iface 225 (.agg #[.int .i64 i])) ∧ Fr [pv] wb w'
          | some rs => fun e w' => e = .returned .nilIface ∧ VW wb pv a s gi ci im (L ++ rs) w') = P := by
        rw [HP0.out]
        split
        · rename_i heq; funext e w'; simp only [heq]
        · rename_i heq; funext e w'; simp only [heq]
      clear HP0 hu f3
      obtain ⟨sz, hsz⟩ : ∃ sz, nbk C - seen.length = sz := ⟨_, rfl⟩
      rw [hsz] at hp HM hs3
      have hl3 := hown3.len Tryz.underlying259 3
      rw [hs3] at hl3
      clear hown3 hp3 hs3
      by_cases h1 : seen.length = nbk C
      · obtain rfl : sz = 0 := by omega
        rw [if_pos (.inl h1)] at hp
        have HP := Lib.hid hp
        have b1 : (((0 : Nat) : Int) == 0) = true := by simp
        clear hp h1 hsz
        go_wp2_with fail
        rw [← HP.out]
        exact ⟨rfl, HFf.out.trans F3.out.nil⟩
      have hsp : 0 < sz := by omega
      have b1 : ((sz : Int) == 0) = false := by simp; omega
      by_cases h2 : lv = sz
      · rw [if_neg (by omega)] at hp
        have HP := Lib.hid hp
        have b2 : ((sz : Int) != lv) = false := by simp [h2]
        subst h2
        have hBk := cblocks (HTab.out _ _ (HV.out _ F3.out)) C
        rw [show nbkZ (C : Int) = nbk C from nbkZ_nat C hc.2] at hBk
        have HSz := Lib.hid (fun W (h : TabM W) => csize h C)
        rw [show cszZ (C : Int) = csz C from cszZ_nat C hc.2] at HSz
        have HPd := Lib.hid (fun W (h : TabM W) => cpad_any h C)
        rw [show cpadZ (C : Int) = cpad C from cpadZ_nat C hc.2] at HPd
        have HE := Lib.hid (blkK_end (c := C) seen hE)
        have HS := Lib.hid (blkK_succ L b C seen)
        have HLe := Lib.hid (show ∀ k, (L ++ (List.range k).map (blkM b C seen)).length = L.length + k from fun k => by simp)
        have HMul := Lib.hid (show ∀ k, k ≤ nbk C → csz C * k ≤ 1024 from fun k hk => by
          have := Nat.mul_le_mul_left (csz C) hk
          omega)
        have HV3 := Lib.hid (HV.out _ F3.out)
        have hct2 := hct.2.2.1
        have hct3 := hct.2.2.2.2.2.1
        have hct4 := hct.2.1
        have HPad := Lib.hid (show padM b C = if 0 < cpad C then [(b + 1024 - cpad C, cpad C, 8)] else [] from rfl)
        have hn32 : nbk C ≤ 32 := hct.2.2.2.2.1
        have HBd := Lib.hid (show ∀ k, blkM b C seen k = (b + csz C * k, csz C, if k ∈ seen then 6 else 5) from fun _ => rfl)
        clear hp h1 hct
        generalize csz C = z at *
        generalize cpad C = pd at *
        generalize nbk C = n at *
        go_wp2_with fail
        with_reducible refine hBk.mono ?_
        rintro e w4 ⟨rfl, rfl⟩
        clear hl3
        go_wp2_with fail
        go_loopw [84] (fun v W => ∃ k : Nat, k ≤ n ∧ v = .int .i64 k ∧ VW wb pv a s gi ci im (L ++ (List.range k).map (blkM b C seen)) W ∧ MapN W B (leftP n seen) lv) (fun v _ => n - (intOf v).toNat)
        case atStart => exact ⟨0, by omega, rfl, by simpa using HV3.out, HM.out⟩
        case round =>
          obtain ⟨k, hk, rfl, hVk, hMk⟩ := hrel
          have HVk := Lib.hid hVk
          have HMk := Lib.hid hMk
          by_cases hlt : k < n
          · have b3 : decide ((k : Int) < n) = true := by simp; omega
            have b3' : decide (k < n) = true := by simp; omega
            have wk : IntKind.i64.wrap ((k : Int) + 1) = (k : Int) + 1 := IntWalk.i64_in _ (by omega)
            have hkey := keyInt k (by omega)
            obtain ⟨D3, hown3, hp3, -⟩ := hMk
            have hp3 := hp3 k
            have hz1 := HSz.out _ (HTab.out _ _ hVk)
            have hm1 := HMul.out k hk
            have hle := HLe.out k
            have hee := HE.out k
            clear hVk
            by_cases hin : k ∈ seen
            · rw [show leftP n seen k = false by simp [leftP, hin]] at hp3
              have hly := HLay.out _ _ HVk.out z 6 (by omega) (by omega) (by omega) z 6 rfl rfl
              have HLE := Lib.hid (show layE (L ++ (List.range k).map (blkM b C seen)) z 6 = L ++ (List.range (k + 1)).map (blkM b C seen) from by
                unfold layE
                rw [if_pos (by omega), hee, HS.out, HBd.out, if_pos hin])
              clear hin hm1 hle hee
              go_wp2_with (first | (at_lookup; refine wpList_lookup_own_ok_int _ rfl _ _ 259 rfl 3 3 .i64 lawInt Tryz.underlying259 Tryz.underlying3 (zeroInt _) B _ D3 rfl hown3 _ _ rfl hkey ?_; intro c3 hat hwc; clear hat hwc; rw [hp3]) | fail)
              with_reducible refine hz1.mono ?_
              rintro e w5 ⟨rfl, rfl⟩
              clear hown3 hp3
              go_wp2_with fail
              with_reducible refine hly.mono ?_
              rintro e w6 ⟨rfl, h6, hf6⟩
              go_wp2_with fail
              go_roundw
              case rel => exact ⟨k + 1, by omega, by go_num, by rw [← HLE.out]; exact h6, HMk.out.lay hf6 hBp⟩
              case measure => simp [intOf]; omega
            · rw [show leftP n seen k = true by simp [leftP, hin]; exact hlt] at hp3
              have hly := HLay.out _ _ HVk.out z 5 (by omega) (by omega) (by omega) z 5 rfl rfl
              have HLE := Lib.hid (show layE (L ++ (List.range k).map (blkM b C seen)) z 5 = L ++ (List.range (k + 1)).map (blkM b C seen) from by
                unfold layE
                rw [if_pos (by omega), hee, HS.out, HBd.out, if_neg hin])
              clear hin hm1 hle hee
              go_wp2_with (first | (at_lookup; refine wpList_lookup_own_ok_int _ rfl _ _ 259 rfl 3 3 .i64 lawInt Tryz.underlying259 Tryz.underlying3 (zeroInt _) B _ D3 rfl hown3 _ _ rfl hkey ?_; intro c3 hat hwc; clear hat hwc; rw [hp3]) | fail)
              with_reducible refine hz1.mono ?_
              rintro e w5 ⟨rfl, rfl⟩
              clear hown3 hp3
              go_wp2_with fail
              with_reducible refine hly.mono ?_
              rintro e w6 ⟨rfl, h6, hf6⟩
              go_wp2_with fail
              go_roundw
              case rel => exact ⟨k + 1, by omega, by go_num, by rw [← HLE.out]; exact h6, HMk.out.lay hf6 hBp⟩
              case measure => simp [intOf]; omega
          · obtain rfl : k = n := by omega
            have b3 : decide ((k : Int) < k) = false := by simp
            have b3' : decide (k < k) = false := by simp
            have hm1 := HMul.out k hk
            have hle := HLe.out k
            have hee := HE.out k
            have hpd := HPd.out _ (HTab.out _ _ hVk)
            have hly := HLay.out _ _ HVk.out pd 8 (by omega) (by omega) (by omega) pd 8 rfl rfl
            have HLE := Lib.hid (show layE (L ++ (List.range k).map (blkM b C seen)) pd 8 = L ++ ((List.range k).map (blkM b C seen) ++ padM b C) from by
              unfold layE
              rw [HPad.out, hee]
              by_cases h : 0 < pd
              · rw [if_pos h, if_pos h, List.append_assoc, show b + z * k = b + 1024 - pd by omega]
              · rw [if_neg h, if_neg h, List.append_nil])
            clear hVk hMk hm1 hle hee
            go_wp2_with fail
            with_reducible refine hpd.mono ?_
            rintro e w5 ⟨rfl, rfl⟩
            go_wp2_with fail
            with_reducible refine hly.mono ?_
            rintro e w6 ⟨rfl, h6, -⟩
            go_wp2_with fail
            rw [← HP.out]
            refine ⟨rfl, ?_⟩
            rw [← HLE.out]
            exact h6
      · rw [if_pos (.inr (by omega))] at hp
        have HP := Lib.hid hp
        have b2 : ((sz : Int) != lv) = true := by simp; omega
        clear hp h1 h2 hsz
        go_wp2_with fail
        rw [← HP.out]
        exact ⟨rfl, HFf.out.trans F3.out.nil⟩
end
end Go.Proofs.YtgoogihfggndpaaGreatDoor

/- region: an image is mapped. -/
namespace Go.Proofs.YtgoogihfggndpaaGreatDoor
set_option linter.unusedVariables false
set_option linter.unusedSimpArgs false
open Go.RowKit

theorem lastEnd_sn (l : List Rn) (r : Rn) : lastEnd (l ++ [r]) = r.1 + r.2.1 := by simp [lastEnd]
theorem slabM_end {im : List Nat} {h b : Nat} {rs L : List Rn} (hs : slabM im h b = some rs) : lastEnd (L ++ rs) = b + 1024 ∧ rs.length ≤ 33 := by
  unfold slabM at hs
  split at hs
  · cases hs
  split at hs
  · split at hs
    · have := Option.some.inj hs
      subst this
      exact ⟨by rw [lastEnd_sn], by simp⟩
    · cases hs
  · rename_i h9 h0
    cases hch : chaseL im b (imN im h 2) (nbk (imN im h 2) + 1) (imN im (h + 4) 4) [] with
    | none => rw [hch] at hs; cases hs
    | some seen =>
      rw [hch] at hs
      simp only at hs
      split at hs
      · cases hs
      · have := Option.some.inj hs
        subst this
        generalize imN im h 2 = c at *
        obtain ⟨s1, s2, s3, n1, n2, s6, s7⟩ := csz_tab c (by omega) (by omega)
        have hm : ((List.range (nbk c)).map (blkM b c seen)) ≠ [] := by simp; omega
        obtain ⟨n, hn⟩ : ∃ n, nbk c = n + 1 := ⟨nbk c - 1, by omega⟩
        unfold padM
        by_cases hp : 0 < cpad c
        · rw [if_pos hp, ← List.append_assoc, lastEnd_sn]
          exact ⟨by show b + 1024 - cpad c + cpad c = _; omega, by simp; omega⟩
        · rw [if_neg hp, List.append_nil, lastEnd_app _ hm, hn, map_blk_end, ← hn]
          exact ⟨by omega, by simp; omega⟩
theorem slabsM_none {im : List Nat} {a s n : Nat} (h : slabsM im a s n = none) : ∀ m, n ≤ m → slabsM im a s m = none
  | 0, hm => by obtain rfl : n = 0 := by omega
                exact h
  | m + 1, hm => by
    rcases Nat.lt_or_ge n (m + 1) with h1 | h1
    · rw [slabsM, slabsM_none h m (by omega)]
    · obtain rfl : n = m + 1 := by omega
      exact h
/-- The runs ahead of the slabs, one by one. -/
theorem rrun5_at (a s : Nat) (h : Cfg a s) {k : Nat} {r : Rn} (hr : (rrun5 a s)[k]? = some r) : lastEnd ((rrun5 a s).take k) = r.1 ∧ 0 < r.2.1 ∧ r.2.1 ≤ 131072 ∧ r.2.2 ≠ 7 := by
  have hz := cfg_sizes h
  have hz2 := lsize_le a s h
  obtain ⟨a1, a2, s1, s2, s3⟩ := h
  unfold rrun5 rrun4 rrun3 at *
  by_cases hp : 0 < rpad a s
  · rw [if_pos hp] at hr ⊢
    match k, hr with
    | 0, hr => obtain rfl := Option.some.inj hr; exact ⟨rfl, by decide, by decide, by decide⟩
    | 1, hr => obtain rfl := Option.some.inj hr; exact ⟨rfl, by decide, by decide, by decide⟩
    | 2, hr => obtain rfl := Option.some.inj hr; exact ⟨rfl, by show 0 < 16 * a; omega, by show 16 * a ≤ _; omega, by show 3 ≠ 7; decide⟩
    | 3, hr => obtain rfl := Option.some.inj hr; exact ⟨rfl, by show 0 < 4 * s; omega, by show 4 * s ≤ _; omega, by show 4 ≠ 7; decide⟩
    | 4, hr => obtain rfl := Option.some.inj hr; exact ⟨rfl, hp, by show rpad a s ≤ _; unfold rpad lsize at *; omega, by show 8 ≠ 7; decide⟩
    | k + 5, hr => simp at hr
  · rw [if_neg hp] at hr ⊢
    match k, hr with
    | 0, hr => obtain rfl := Option.some.inj hr; exact ⟨rfl, by decide, by decide, by decide⟩
    | 1, hr => obtain rfl := Option.some.inj hr; exact ⟨rfl, by decide, by decide, by decide⟩
    | 2, hr => obtain rfl := Option.some.inj hr; exact ⟨rfl, by show 0 < 16 * a; omega, by show 16 * a ≤ _; omega, by show 3 ≠ 7; decide⟩
    | 3, hr => obtain rfl := Option.some.inj hr; exact ⟨rfl, by show 0 < 4 * s; omega, by show 4 * s ≤ _; omega, by show 4 ≠ 7; decide⟩
    | k + 4, hr => simp at hr
theorem rrun5_x (a s : Nat) (h : Cfg a s) (k x m j : Nat) (hr : (rrun5 a s)[k]? = some (x, m, j)) : x ≤ 131072 := by
  have hz := cfg_sizes h
  have hz2 := lsize_le a s h
  obtain ⟨a1, a2, s1, s2, s3⟩ := h
  have hm := List.mem_of_getElem? hr
  unfold rrun5 rrun4 rrun3 at hm
  split at hm
  · simp at hm
    omega
  · simp at hm
    omega
theorem rrun5_end (a s : Nat) (h : Cfg a s) : lastEnd (rrun5 a s) = lbase a s ∧ (rrun5 a s).length ≤ 5 := by
  have hz := cfg_sizes h
  obtain ⟨a1, a2, s1, s2, s3⟩ := h
  unfold rrun5 rrun4 rrun3 rpad
  by_cases hp : 0 < lbase a s - (128 + 16 * a + 4 * s)
  · rw [if_pos hp]
    exact ⟨by show 128 + 16 * a + 4 * s + (lbase a s - (128 + 16 * a + 4 * s)) = _; omega, by simp⟩
  · rw [if_neg hp]
    refine ⟨?_, by simp⟩
    show 128 + 16 * a + 4 * s = _
    have : lslots a = 128 + 16 * a := rfl
    omega
theorem lruns_eq (a s : Nat) (h : Cfg a s) : lruns a s = rruns a s := by
  have hz := cfg_sizes h
  obtain ⟨a1, a2, s1, s2, s3⟩ := h
  have hl : lslots a = 128 + 16 * a := rfl
  have e3 : l3 a = rrun3 a := by
    unfold l3 layStep
    rw [if_pos (show lastEnd l2 < lslots a by show 8 + 120 < _; omega)]
    show [(0, 8, 1), (8, 120, 2)] ++ [(8 + 120, lslots a - (8 + 120), 3)] = rrun3 a
    rw [hl, show 128 + 16 * a - (8 + 120) = 16 * a by omega]; rfl
  have e4 : l4 a s = rrun4 a s := by
    unfold l4 layStep
    have hE : lastEnd (l3 a) = 128 + 16 * a := by rw [e3]; rfl
    rw [hE, if_pos (by omega), e3, hl, show 128 + 16 * a + 4 * s - (128 + 16 * a) = 4 * s by omega]; rfl
  have hE4 : lastEnd (l4 a s) = 128 + 16 * a + 4 * s := by rw [e4]; unfold rrun4; rw [lastEnd_sn]
  have e5 : l5 a s = rrun5 a s := by
    unfold l5 layStep rrun5 rpad
    rw [hE4, e4]
    by_cases hp : 128 + 16 * a + 4 * s < lbase a s
    · rw [if_pos hp, if_pos (by omega)]
    · rw [if_neg hp, if_neg (by omega)]
  unfold lruns layStep rruns
  rw [e5, (rrun5_end a s ⟨a1, a2, s1, s2, s3⟩).1, if_pos (by omega), show lsize a s - lbase a s = 1024 * a by omega]
theorem ownZ_base {w : World} {base base' : Nat} {v : Value} {l : List Rz} (hb : base ≤ base') (h : OwnZ w base' v l) : OwnZ w base v l := by
  obtain ⟨h1, h2⟩ := h
  refine ⟨h1, h2.imp id ?_⟩
  rintro ⟨g, cap, cs, e, hg, r⟩
  exact ⟨g, cap, cs, e, by omega, r⟩
theorem lay_take {R : List Rn} {k : Nat} {r : Rn} (hr : R[k]? = some r) (h1 : lastEnd (R.take k) = r.1) (h2 : 0 < r.2.1) : layE (R.take k) r.2.1 r.2.2 = R.take (k + 1) := by
  unfold layE
  rw [if_pos h2, h1, List.take_add_one, hr]; rfl
section
variable {w : World} {a s gi ci : Nat} {im : List Nat}
def MapP (w : World) (im : List Nat) (a s : Nat) (e : Ending) (w' : World) : Prop := Fr [] w w' ∧ match mapM16 im a s with
  | none => ∃ i : Nat, e = .returned (.tuple #[.slice none 0 0, .iface 225 (.agg #[.int .i64 i])])
  | some rz => ∃ v, e = .returned (.tuple #[v, .nilIface]) ∧ OwnZ w' w.heap.size v rz ∧ rz.length ≤ 1048576
set_option maxRecDepth 100000 in
set_option maxHeartbeats 8000000 in
theorem zmapped (hM : TabM w) (hc : Cfg a s) (himg : Byt w (some ⟨gi, 0, none⟩) im) (hg : gi < w.heap.size) (hlen : im.length = lsize a s) (hci : im.length ≤ ci) :
    Calls Tryz.prog 101 #[cfgV a s, .slice (some ⟨gi, 0, none⟩) im.length ci] w (MapP w im a s) := by
  have hBv := Blk.new2 w (.cells #[.int .i64 a, .int .i64 s] 23) 221 #[.int .i64 a, .int .i64 s, .slice (some ⟨gi, 0, none⟩) im.length ci, .slice none 0 0]
  have hlt : w.heap.size + 1 < ((w.alloc (.cells #[.int .i64 a, .int .i64 s] 23)).alloc (.cells #[.int .i64 a, .int .i64 s, .slice (some ⟨gi, 0, none⟩) im.length ci, .slice none 0 0] 221)).heap.size := by simp
  have f0 : Fr [] w ((w.alloc (.cells #[.int .i64 a, .int .i64 s] 23)).alloc (.cells #[.int .i64 a, .int .i64 s, .slice (some ⟨gi, 0, none⟩) im.length ci, .slice none 0 0] 221)) := ((Fr.refl [] w).alloc _).alloc _
  have hB0 := ((Blk.new w 23 #[.int .i64 a, .int .i64 s]).alloc (.cells #[.int .i64 a, .int .i64 s, .slice (some ⟨gi, 0, none⟩) im.length ci, .slice none 0 0] 221))
  have hru := fun W (h : TabM W) => lruns_any W h a s hc
  rw [lruns_eq a s hc] at hru
  unfold RunsP cfgV at hru
  obtain ⟨P, hP⟩ : ∃ P, MapP w im a s = P := ⟨_, rfl⟩
  rw [hP]
  have HP := Lib.hid hP.symm
  have HLen := Lib.hid hlen
  have HCi := Lib.hid hci
  clear hP hlen hci
  unfold cfgV
  go_enter Tryz.func101, Tryz.ntmps101
  go_wp2_with fail
  generalize hwb : (w.alloc (.cells #[.int .i64 a, .int .i64 s] 23)).alloc (.cells #[.int .i64 a, .int .i64 s, .slice (some ⟨gi, 0, none⟩) im.length ci, .slice none 0 0] 221) = wb at *
  clear hwb
  with_reducible refine (hru _ (hM.fr f0 (by simp))).mono ?_
  rintro e w1 ⟨v, rfl, hO, f1⟩
  obtain ⟨hE5, hL5⟩ := rrun5_end a s hc
  have hR5 := fun k r => @rrun5_at a s hc k r
  have hz := lsize_le a s hc
  have F1 := Lib.hid (f0.trans f1)
  have hV1 : VW w1 (w.heap.size + 1) a s gi ci im [] w1 :=
    ⟨⟨_, hBv.fr f1 (by simp), ⟨rfl, .inl ⟨rfl, rfl⟩⟩⟩, Fr.refl _ _, himg.fr F1.out (by simp), hM.fr F1.out (by simp), hc, HLen.out, by have := hM.size; omega, by have := f1.size; omega, by omega, HCi.out⟩
  have HC0 := Lib.hid (fun W (hf : Fr [w.heap.size + 1] w1 W) => (show W.cell? ⟨w.heap.size, 0, none⟩ = some (.int .i64 a) from ((hB0.fr f1 (by simp)).fr hf (by simp)).cell 0))
  obtain ⟨A, c, hv, hZB, hA⟩ := (OwnZ.of hO).zb (by rw [List.length_map]; unfold rruns; rw [List.length_append]; simp; omega)
  subst hv
  have HZ := Lib.hid (fun W (hf : Fr [w.heap.size + 1] w1 W) => hZB.fr hf (fun g o e => by
    have := hA g o e (by rw [List.length_map]; unfold rruns; simp)
    simp
    omega))
  have HR := Lib.hid (show ∀ k, ∀ r, (rruns a s)[k]? = some r → (k < (rrun5 a s).length ∧ (rrun5 a s)[k]? = some r) ∨ (k = (rrun5 a s).length ∧ r = (lbase a s, 1024 * a, 7)) from fun k r hr => by
    unfold rruns at hr
    rcases Nat.lt_or_ge k (rrun5 a s).length with h | h
    · rw [List.getElem?_append_left h] at hr
      exact .inl ⟨h, hr⟩
    · rw [List.getElem?_append_right h] at hr
      have : k - (rrun5 a s).length = 0 := by
        have := (List.getElem?_eq_some_iff.1 hr).1
        simp at this
        omega
      rw [this] at hr
      exact .inr ⟨by omega, (Option.some.inj hr).symm⟩)
  have hN : (rruns a s).length = (rrun5 a s).length + 1 := by unfold rruns; simp
  rw [List.length_map]
  generalize hN1 : (rruns a s).length = N1 at *
  have HE := Lib.hid (And.intro hE5 hL5)
  have HR5 := Lib.hid hR5
  have HMap := Lib.hid (show mapM16 im a s = match slabsM im a s a with | none => none | some rs => some (joinZ (rs.map zOf)) from rfl)
  have HS0 := Lib.hid (show slabsM im a s 0 = some (rrun5 a s) from rfl)
  have HN0 := Lib.hid (show ((rruns a s).map zOf).length = N1 from by rw [List.length_map, hN1])
  have HGet := Lib.hid (fun k r (hr : (rruns a s)[k]? = some r) => (show ((rruns a s).map zOf)[k]? = some (zOf r) by rw [List.getElem?_map, hr]; rfl))
  have HEx := Lib.hid (fun k (hk : k < N1) => (show ∃ r, (rruns a s)[k]? = some r from ⟨_, List.getElem?_eq_getElem (by omega)⟩))
  have hl52 := hL5
  have hxz := rrun5_x a s hc
  generalize rrun5 a s = R5 at *
  generalize hn5 : R5.length = n5 at *
  have hn5' := Lib.hid hn5
  have HNN := Lib.hid hN
  clear hN1 hn5 hE5 hL5 hR5 hO hZB hA hBv hB0 hru hlt hN f1
  go_wp2_with fail
  go_loopw [18] (fun v W => ∃ k : Nat, k ≤ N1 ∧ v = .int .i64 k ∧ VW w1 (w.heap.size + 1) a s gi ci im (R5.take k) W) (fun v _ => N1 - (intOf v).toNat)
  case atStart => exact ⟨0, by omega, rfl, by simpa using hV1⟩
  case round =>
    clear hV1
    obtain ⟨k, hk, rfl, hV⟩ := hrel
    have HV := Lib.hid hV
    have hNN := HNN.out
    by_cases hlt : k < N1
    · obtain ⟨r, hr⟩ := HEx.out k hlt
      obtain ⟨g, o, rfl, hgg, hcc⟩ := (HZ.out _ hV.f).row (by rw [HN0.out]; omega)
      obtain ⟨c0, c1, c2⟩ := hcc k _ (HGet.out k r hr)
      have hcase := HR.out k r hr
      obtain ⟨x, m, j⟩ := r
      simp only [zOf] at c0 c1 c2
      have b0 : decide ((k : Int) < N1) = true := by simp; omega
      have b0' : decide (k < N1) = true := by simp; omega
      have wk : IntKind.i64.wrap ((k : Int) + 1) = (k : Int) + 1 := IntWalk.i64_in _ (by omega)
      have i0 : (0 : Int) ≤ k := by omega
      have i1 : (k : Int) < N1 := by omega
      clear hcc hr hV hNN
      rcases hcase with ⟨hk5, hr5⟩ | ⟨hk5, hr5⟩
      · obtain ⟨h1, h2, h3, h4⟩ := HR5.out k _ hr5
        have hx1 : x ≤ 1048576 := by
          have := hxz k x m j hr5
          omega
        have HT := Lib.hid (lay_take hr5 h1 h2)
        simp only at h1 h2 h3 h4 HT
        have hly := vlay (HV.out.fr0 ((Fr.refl [] wr).alloc (.cells #[.int .i64 x, .int .i64 m, .int .i64 j] 84))) m j (by omega) (by rw [h1]; exact hx1) (by rw [List.length_take]; omega) m j rfl rfl
        have b1 : ((j : Int) != 7) = true := by simp; omega
        clear h1 h2 h3 h4 hr5
        go_wp2_with fail
        with_reducible refine hly.mono ?_
        rintro e w2 ⟨rfl, h5, -⟩
        go_wp2_with fail
        go_roundw
        case rel => exact ⟨k + 1, by have := HNN.out; omega, by go_num, by rw [← HT.out]; exact h5⟩
        case measure => simp [intOf]; omega
      · injection hr5 with q1 q2
        injection q2 with q2 q3
        subst q3
        subst hk5
        have b1 : (((7 : Nat) : Int) != 7) = false := by simp
        have HTk := Lib.hid (show R5.take (k + 1) = R5.take k by rw [List.take_of_length_le (by have := hn5'.out; omega), List.take_of_length_le (by have := hn5'.out; omega)])
        clear q1 q2
        go_wp2_with fail
        go_roundw
        case rel => exact ⟨k + 1, by have := HNN.out; omega, by go_num, by rw [HTk.out]; exact HV.out.fr0 ((Fr.refl [] wr).alloc _)⟩
        case measure => simp [intOf]; omega
    · obtain rfl : k = N1 := by omega
      have b0 : decide ((k : Int) < k) = false := by simp
      have b0' : decide (k < k) = false := by simp
      have HV5 := Lib.hid (show VW w1 (w.heap.size + 1) a s gi ci im R5 wr from by
        have e5 : R5.take k = R5 := List.take_of_length_le (by have := hn5'.out; have := HNN.out; omega)
        have h5 := HV.out
        rw [e5] at h5
        exact h5)
      have c0 := HC0.out _ hV.f
      clear hV hlt hk HV hNN
      go_wp2_with fail
      go_loopw [34] (fun v W => ∃ i : Nat, i ≤ a ∧ v = .int .i64 i ∧ ∃ rs, slabsM im a s i = some rs ∧ lastEnd rs = lbase a s + 1024 * i ∧ rs.length ≤ 5 + 33 * i ∧ VW w1 (w.heap.size + 1) a s gi ci im rs W) (fun v _ => a - (intOf v).toNat)
      case atStart => exact ⟨0, by omega, rfl, R5, HS0.out, by rw [HE.out.1]; omega, by have := HE.out.2; have := hn5'.out; omega, HV5.out⟩
      case round =>
        clear HV5 c0
        obtain ⟨i, hi, rfl, rs, hsm, hle, hrl, hVi⟩ := hrel
        have ha64 := hc.a2
        by_cases hlt : i < a
        · have hs := vslab hVi i hlt hle (by omega)
          unfold SlabP at hs
          have b1 : decide ((i : Int) < a) = true := by simp; omega
          have b1' : decide (i < a) = true := by simp; omega
          have wi : IntKind.i64.wrap ((i : Int) + 1) = (i : Int) + 1 := IntWalk.i64_in _ (by omega)
          have hSu := Lib.hid (show slabsM im a s (i + 1) = match slabM im (hdAt i) (lbase a s + 1024 * i) with | none => none | some r => some (rs ++ r) from by rw [slabsM, hsm]; rfl)
          have HEnd := Lib.hid (fun r h => @slabM_end im (hdAt i) (lbase a s + 1024 * i) r rs h)
          clear hsm hle hVi
          cases hm : slabM im (hdAt i) (lbase a s + 1024 * i) with
          | none =>
            rw [hm] at hs hSu
            have HNo := Lib.hid (slabsM_none hSu.out a (by omega))
            go_wp2_with fail
            with_reducible refine hs.mono ?_
            rintro e w3 ⟨rfl, f3⟩
            go_wp2_with fail
            rw [HP.out]
            refine ⟨F1.out.step f3 (by simp), ?_⟩
            rw [HMap.out, HNo.out]
            exact ⟨i, rfl⟩
          | some r =>
            have he := HEnd.out r hm
            rw [hm] at hs hSu
            go_wp2_with fail
            with_reducible refine hs.mono ?_
            rintro e w3 ⟨rfl, h3⟩
            go_wp2_with fail
            go_roundw
            case rel => exact ⟨i + 1, by omega, by go_num, _, hSu.out, by rw [he.1]; omega, by rw [List.length_append]; omega, h3⟩
            case measure => simp [intOf]; omega
        · obtain rfl : i = a := by omega
          have b1 : decide ((i : Int) < i) = false := by simp
          have b1' : decide (i < i) = false := by simp
          have HVi := Lib.hid hVi
          obtain ⟨vr, hB, hO⟩ := hVi.st
          obtain ⟨A2, c2, rfl⟩ := own_slice hO
          obtain ⟨A3, c3, hv3, hzb, -⟩ := (OwnZ.of hO).zb (by rw [List.length_map]; omega)
          injection hv3 with q1 q2 q3
          subst q1 q3
          have hj := zjoin wr A2 c2 _ hzb
          rw [List.length_map] at hj
          have d3 := hB.cell 3
          simp at d3
          have HMp := Lib.hid (show mapM16 im i s = some (joinZ (rs.map zOf)) from by rw [HMap.out, hsm])
          have HJl := Lib.hid (show (joinZ (rs.map zOf)).length ≤ 1048576 from by
            have := jfold_len (rs.map zOf) []
            unfold joinZ
            rw [List.length_map] at this
            simp at this ⊢
            omega)
          have HFi := Lib.hid (F1.out.step hVi.f (by simp))
          generalize rs.length = rl at *
          clear hB hO hzb hVi hsm hle q2
          go_wp2_with fail
          with_reducible refine hj.mono ?_
          rintro e w3 ⟨v3, rfl, hO3, f3⟩
          go_wp2_with fail
          rw [HP.out]
          refine ⟨HFi.out.trans f3, ?_⟩
          rw [HMp.out]
          exact ⟨v3, rfl, ownZ_base HFi.out.size hO3, HJl.out⟩
end
end Go.Proofs.YtgoogihfggndpaaGreatDoor

/- region: Map, Agree; two rows of runs that are the same. -/
namespace Go.Proofs.YtgoogihfggndpaaGreatDoor
set_option linter.unusedVariables false
set_option linter.unusedSimpArgs false
open Go.RowKit

set_option maxHeartbeats 1000000 in
theorem zsame9 {w : World} {a1 a2 : Option Addr} {c1 c2 : Nat} {l : List Rz} (h1 : ZB w a1 l) (h2 : ZB w a2 l) :
    Calls Tryz.prog 14 #[.slice a1 l.length c1, .slice a2 l.length c2] w fun e w' => e = .returned (.bool true) ∧ Fr [] w w' := by
  have H1 := Lib.hid h1
  have H2 := Lib.hid h2
  have hlen := h1.len
  clear h1 h2
  generalize hN : l.length = N at *
  have HN := Lib.hid hN
  clear hN
  have hb0 : ((N : Int) != N) = false := by simp
  go_enter Tryz.func14, Tryz.ntmps14
  go_wp2_with fail
  go_loopw [5] (fun v wr => ∃ t : Nat, t ≤ N ∧ v = .int .i64 t ∧ Fr [] w wr) (fun v _ => N - (intOf v).toNat)
  case atStart => exact ⟨0, Nat.zero_le _, rfl, Fr.refl _ _⟩
  case round =>
    obtain ⟨t, ht, rfl, hF⟩ := hrel
    have F := Lib.hid hF
    clear hF
    by_cases hlt : t < N
    · obtain ⟨⟨x, m, j⟩, hr⟩ : ∃ r, l[t]? = some r := ⟨_, List.getElem?_eq_getElem (by rw [HN.out]; exact hlt)⟩
      obtain ⟨g1, o1, rfl, _, k1⟩ := (H1.out.fr0 F.out).row (by rw [HN.out]; omega)
      obtain ⟨g2, o2, rfl, _, k2⟩ := (H2.out.fr0 F.out).row (by rw [HN.out]; omega)
      obtain ⟨q1, q2, q3⟩ := k1 t _ hr
      obtain ⟨p1, p2, p3⟩ := k2 t _ hr
      simp only at q1 q2 q3 p1 p2 p3
      have hg2 : (0 : Int) ≤ t := by omega
      have hg3 : (t : Int) < N := by omega
      have b1 : decide ((t : Int) < N) = true := by simp; omega
      have b1' : decide (t < N) = true := by simp; omega
      have wt : IntKind.i64.wrap ((t : Int) + 1) = (t : Int) + 1 := IntWalk.i64_in _ (by omega)
      clear k1 k2 hr
      go_wp2_with fail
      go_quiet (fail)
      go_wp2_with fail
      go_roundw
      case rel => exact ⟨t + 1, by omega, by go_num, F.out.drewN _⟩
      case measure => simp [intOf]; omega
    · obtain rfl : t = N := by omega
      have b1 : decide ((t : Int) < t) = false := by simp
      have b1' : decide (t < t) = false := by simp
      go_wp2_with fail
      go_ret
      exact ⟨rfl, F.out⟩
set_option maxHeartbeats 1000000 in
theorem zequal {w : World} {a1 a2 : Option Addr} {c1 c2 : Nat} {l : List Rz} (h1 : ZB w a1 l) (h2 : ZB w a2 l) :
    Calls Tryz.prog 73 #[.slice a1 l.length c1, .slice a2 l.length c2] w fun e w' => e = .returned (.bool true) ∧ Fr [] w w' := by
  have H1 := Lib.hid h1
  have H2 := Lib.hid h2
  have hlen := h1.len
  clear h1 h2
  generalize hN : l.length = N at *
  have HN := Lib.hid hN
  clear hN
  have hb0 : ((N : Int) != N) = false := by simp
  go_enter Tryz.func73, Tryz.ntmps73
  go_wp2_with fail
  go_loopw [13] (fun v wr => ∃ t : Nat, t ≤ N ∧ v = .int .i64 t ∧ Fr [] w wr) (fun v _ => N - (intOf v).toNat)
  case atStart => exact ⟨0, Nat.zero_le _, rfl, Fr.refl _ _⟩
  case round =>
    obtain ⟨t, ht, rfl, hF⟩ := hrel
    have F := Lib.hid hF
    clear hF
    by_cases hlt : t < N
    · obtain ⟨⟨x, m, j⟩, hr⟩ : ∃ r, l[t]? = some r := ⟨_, List.getElem?_eq_getElem (by rw [HN.out]; exact hlt)⟩
      obtain ⟨g1, o1, rfl, _, k1⟩ := (H1.out.fr0 F.out).row (by rw [HN.out]; omega)
      obtain ⟨g2, o2, rfl, _, k2⟩ := (H2.out.fr0 F.out).row (by rw [HN.out]; omega)
      obtain ⟨q1, q2, q3⟩ := k1 t _ hr
      obtain ⟨p1, p2, p3⟩ := k2 t _ hr
      simp only at q1 q2 q3 p1 p2 p3
      have hg2 : (0 : Int) ≤ t := by omega
      have hg3 : (t : Int) < N := by omega
      have b1 : decide ((t : Int) < N) = true := by simp; omega
      have b1' : decide (t < N) = true := by simp; omega
      have wt : IntKind.i64.wrap ((t : Int) + 1) = (t : Int) + 1 := IntWalk.i64_in _ (by omega)
      clear k1 k2 hr
      go_wp2_with fail
      go_quiet (fail)
      go_wp2_with fail
      go_roundw
      case rel => exact ⟨t + 1, by omega, by go_num, F.out.drewN _⟩
      case measure => simp [intOf]; omega
    · obtain rfl : t = N := by omega
      have b1 : decide ((t : Int) < t) = false := by simp
      have b1' : decide (t < t) = false := by simp
      go_wp2_with fail
      go_ret
      exact ⟨rfl, F.out⟩
end Go.Proofs.YtgoogihfggndpaaGreatDoor

/- region: Map and Agree of a memory. -/
namespace Go.Proofs.YtgoogihfggndpaaGreatDoor
set_option linter.unusedVariables false
set_option linter.unusedSimpArgs false
open Go.RowKit
section
variable {w : World} {q : MH} {t : TM}
theorem TM.byte_lt (h : t.Ok) : ∀ b ∈ t.bytes, b < 256 := by
  intro b hb
  unfold TM.bytes at hb
  obtain ⟨i, _, rfl⟩ := List.mem_map.1 hb
  unfold byteAt
  have hnb : ∀ v j, nb v j < 256 := fun v j => Nat.mod_lt _ (by decide)
  split
  · unfold rootB; split
    · decide
    · exact hnb _ _
  · split
    · exact hnb _ _
    · split
      · exact hnb _ _
      · split
        · decide
        · exact h.bt _
theorem zerrno0 (w : World) : Calls Tryz.prog 102 #[.nilIface] w fun e w' => e = .returned (.int .i64 0) ∧ Fr [] w w' := by
  go_enter Tryz.func102, Tryz.ntmps102
  go_wp2_with fail
  go_ret
  exact ⟨rfl, (Fr.refl [] w).alloc _⟩
def MapZ (w : World) (rz : List Rz) (e : Ending) (w' : World) : Prop := ∃ v, e = .returned (.tuple #[v, .int .i64 0]) ∧ OwnZ w' w.heap.size v rz ∧ rz.length ≤ 1048576 ∧ Fr [] w w'
set_option maxRecDepth 100000 in
set_option maxHeartbeats 4000000 in
theorem zmapM {z : MS} (hM : TabM w) (h : IsM w q z) {rz : List Rz} (hm : mapM16 z.l z.a z.s = some rz) : Calls Tryz.prog 41 #[.pointer (some ⟨q.m, 0, none⟩)] w (MapZ w rz) := by
  have hcf := mconfig w q z h
  have HI := Lib.hid (fun W (hf : Fr [] w W) => (show Calls Tryz.prog 13 #[.pointer (some ⟨q.m, 0, none⟩)] W fun e w' => ∃ g cap, e = .returned (.slice (some ⟨g, 0, none⟩) z.l.length cap) ∧ W.heap.size ≤ g ∧ RowB w' g cap z.l ∧ Fr [] W w' from
    (mimage W q z (h.fr0 hf)).mono fun e w' ⟨v, he, g, cap, hv, k1, k2, k3⟩ => ⟨g, cap, by rw [he, hv], k1, k2, k3⟩))
  have HTab := Lib.hid (fun W (hf : Fr [] w W) => hM.fr hf (by simp))
  have hbl : z.l.length = lsize z.a z.s := h.size
  have hby := h.ar.byte
  have hz := lsize_le z.a z.s h.cfg
  have hcfg := h.cfg
  have HM := Lib.hid (fun W (hM : TabM W) gi ci (himg : Byt W (some ⟨gi, 0, none⟩) z.l) (hg : gi < W.heap.size) (hci : z.l.length ≤ ci) => zmapped hM hcfg himg hg hbl hci)
  unfold MapP at HM
  rw [hm] at HM
  unfold cfgV at hcf HM
  have hE := eq_cfg0 z.a z.s h.cfg.a1
  have HBy := Lib.hid (show ∀ W g cap, RowB W g cap z.l → Byt W (some ⟨g, 0, none⟩) z.l from fun W g cap hr => hr.byt hby (by omega))
  obtain ⟨P, hP⟩ : ∃ P, MapZ w rz = P := ⟨_, rfl⟩
  rw [hP]
  have HP := Lib.hid hP.symm
  clear hP hm hbl hby hz h hM hcfg
  generalize z.l = im at *
  generalize z.a = a at *
  generalize z.s = s at *
  generalize hil : im.length = il at *
  have HIL := Lib.hid hil
  clear hil
  go_enter Tryz.func41, Tryz.ntmps41
  go_wp2_with fail
  with_reducible refine hcf.mono ?_
  rintro e w1 ⟨rfl, f1⟩
  have B1 := Lib.hid (Blk.new w1 23 #[.int .i64 a, .int .i64 s])
  have F1 := Lib.hid (f1.alloc (.cells #[.int .i64 a, .int .i64 s] 23))
  have f1s := f1.size
  clear f1 hcf
  go_wp2_with fail
  have hY : (w1.alloc (.cells #[.int .i64 a, .int .i64 s] 23)).drew.cell? ⟨w1.heap.size, 0, none⟩ = some (.int .i64 a) ∧ (w1.alloc (.cells #[.int .i64 a, .int .i64 s] 23)).drew.cell? ⟨w1.heap.size, 1, none⟩ = some (.int .i64 s) := ⟨B1.out.drew.cell 0, B1.out.drew.cell 1⟩
  refine wp_region_held_drew (S := fun W => W.cell? ⟨w1.heap.size, 0, none⟩ = some (.int .i64 a) ∧ W.cell? ⟨w1.heap.size, 1, none⟩ = some (.int .i64 s)) (by kernel_rfl) (hY) (fun yH => ?_)
  refine tkY 0 yH (h := ?_)
  refine tkY 1 yH (h := ?_)
  refine wpAnyH_ready (rs := [2]) (by kernel_rfl) (by simp) ?_
  refine AllReadyH.cons (o := ?ooa2) ?hia2 (fun K hK => ?hca2) AllReadyH.nil
  case hia2 => (simp only [List.getElem?_toArray, List.getElem?_cons_zero, List.getElem?_cons_succ]; rfl)
  go_simp
  with_reducible refine (HI.out _ F1.out.drew).mono ?_
  rintro e w2 ⟨gi, ci, rfl, hgi, hrow, f2⟩
  have hci : il ≤ ci := (by have := hrow.le; have := HIL.out; omega)
  have hgl := hrow.lt
  have HR := Lib.hid hrow
  have F2 := Lib.hid (F1.out.drew.trans f2)
  have B2 := Lib.hid (B1.out.drew.fr f2 (by simp))
  have hY := And.intro (B2.out.cell 0) (B2.out.cell 1)
  clear hrow f2
  go_wp2_with fail
  refine hK.out _ _ (hY) (fun yH => ?_)
  clear hK K
  try simp only [Act.put, List.setIfInBounds_toArray, List.set_cons_zero, List.set_cons_succ]
  refine wpAnyH_ready (rs := [3]) (by kernel_rfl) (by simp) ?_
  refine AllReadyH.cons (o := ?ooa3) ?hia3 (fun K hK => ?hca3) AllReadyH.nil
  case hia3 => (simp only [List.getElem?_toArray, List.getElem?_cons_zero, List.getElem?_cons_succ]; rfl)
  go_simp
  with_reducible refine (HM.out _ (HTab.out _ F2.out) gi ci (HBy.out _ _ _ HR.out) hgl hci).mono ?_
  rintro e w3 ⟨f3, v, rfl, hO, hl⟩
  have HO := Lib.hid hO
  have F3 := Lib.hid (F2.out.trans f3)
  have B3 := Lib.hid (B2.out.fr f3 (by simp))
  have hY := And.intro (B3.out.cell 0) (B3.out.cell 1)
  clear hO f3
  go_wp2_with fail
  refine hK.out _ _ (hY) (fun yH => ?_)
  clear hK K
  try simp only [Act.put, List.setIfInBounds_toArray, List.set_cons_zero, List.set_cons_succ]
  refine tkY 4 yH (h := ?_)
  refine tkY 5 yH (h := ?_)
  refine tkY 6 yH (h := ?_)
  refine tkY 7 yH (h := ?_)
  refine tkY 8 yH (h := ?_)
  refine wpAnyH_done (by kernel_rfl) ?_ _
  go_wp2_with fail
  with_reducible refine (zerrno0 _).mono ?_
  rintro e w4 ⟨rfl, f4⟩
  go_wp2_with fail
  rw [HP.out]
  exact ⟨v, rfl, ownZ_base F2.out.size (own_keep HO.out f4), hl, F3.out.trans f4⟩
theorem zmap (h : IsT w q t) {rz : List Rz} (hm : mapM16 t.bytes t.a t.s = some rz) : Calls Tryz.prog 41 #[.pointer (some ⟨q.m, 0, none⟩)] w (MapZ w rz) := zmapM h.tab h.m hm
theorem zb_of {w' : World} {b : Nat} {v : Value} {l : List Rz} (h : OwnZ w' b v l) (hl : l.length ≤ 1048576) : ∃ a c, v = .slice a l.length c ∧ ZB w' a l := by
  obtain ⟨a, c, e, hz, _⟩ := h.zb hl
  exact ⟨a, c, e, hz⟩
set_option maxHeartbeats 2000000 in
theorem zagree (h : IsT w q t) (hm : mapM16 t.bytes t.a t.s = some (((runs t.kinds).map sc4).map zOf)) : Calls Tryz.prog 22 #[.pointer (some ⟨q.m, 0, none⟩)] w fun e w' => e = .returned (.bool true) ∧ Fr [] w w' := by
  have hM := zmap h hm
  unfold MapZ at hM
  have HRu := Lib.hid (fun W (hf : Fr [] w W) => mruns (h.fr0 hf))
  have HEq := Lib.hid (fun W a1 a2 c1 c2 (h1 : ZB W a1 (((runs t.kinds).map sc4).map zOf)) (h2 : ZB W a2 (((runs t.kinds).map sc4).map zOf)) => zequal (c1 := c1) (c2 := c2) h1 h2)
  have HZof := Lib.hid (fun W b v (h : OwnR W b v ((runs t.kinds).map sc4)) => OwnZ.of h)
  clear hm h
  generalize (runs t.kinds).map sc4 = R at *
  generalize hZ : R.map zOf = Z at *
  clear hZ
  go_enter Tryz.func22, Tryz.ntmps22
  go_wp2_with fail
  with_reducible refine hM.mono ?_
  rintro e w1 ⟨v, rfl, hO, hl, f1⟩
  have F1 := Lib.hid f1
  obtain ⟨a1, c1, rfl, hz1⟩ := zb_of hO hl
  have HZ1 := Lib.hid hz1
  clear f1 hO hz1
  go_wp2_with fail
  with_reducible refine (HRu.out _ F1.out).mono ?_
  rintro e w2 ⟨v2, rfl, hO2, f2⟩
  obtain ⟨a2, c2, rfl, hz2⟩ := zb_of (HZof.out _ _ _ hO2) hl
  have heq := HEq.out _ a1 a2 c1 c2 (HZ1.out.fr0 f2) hz2
  generalize Z.length = zl at *
  go_wp2_with fail
  with_reducible refine heq.mono ?_
  rintro e w3 ⟨rfl, f3⟩
  go_wp2_with fail
  go_ret
  exact ⟨rfl, (F1.out.trans f2).trans f3⟩
end
end Go.Proofs.YtgoogihfggndpaaGreatDoor

/- Layer 16: a memory with slabs and its map; the page's example. -/
namespace Go.Proofs.YtgoogihfggndpaaGreatDoor
set_option linter.unusedVariables false
set_option linter.unusedSimpArgs false
open Go.RowKit

/-- The runs of a memory with slabs. -/
def rzS (a s : Nat) (S : SS) : List Rz := ((allR (lbase a s) S a).foldl withR (rrun5 a s)).map zOf
section
variable {w0 W W' : World} {q : MH} {a s : Nat} {S : SS} {t : TM}
theorem rz_eq (hok : t.Ok) (hs : SlI t S) : ((runs t.kinds).map sc4).map zOf = rzS t.a t.s S := by unfold rzS; rw [runs_slabs hok hs]
theorem m_map (h : M15 w0 q a s S W) (hf : S.full a) : Calls Tryz.prog 41 #[.pointer (some ⟨q.m, 0, none⟩)] W (MapZ W (rzS a s S)) := by
  obtain ⟨u, h1, h2, rfl, rfl, h5⟩ := h.x
  have := mapM_ok h1.ok h2 hf
  rw [rz_eq h1.ok h2] at this
  exact zmap h1.m this
theorem m_agree (h : M15 w0 q a s S W) (hf : S.full a) : Calls Tryz.prog 22 #[.pointer (some ⟨q.m, 0, none⟩)] W fun e w' => e = .returned (.bool true) ∧ Fr [] W w' := by
  obtain ⟨u, h1, h2, rfl, rfl, h5⟩ := h.x
  exact zagree h1.m (mapM_ok h1.ok h2 hf)
end
theorem full_zero (a : Nat) : SS.zero.full a := fun i _ h => absurd rfl h
def x16 : Nat × Nat × SS := takeS 7 (lbase 7 224) SS.zero 9
theorem x16v : x16.1 = 1136 ∧ x16.2.1 = 0 := by decide +kernel
theorem x16f : x16.2.2.full 7 := takeS_full (full_zero 7) 9
def rz16 : List Rz := [(0, 8, 1), (8, 120, 2), (128, 112, 3), (240, 896, 4), (1136, 512, 5), (1648, 512, 6), (2160, 6144, 7)]
theorem rz16_eq : rzS 7 224 x16.2.2 = rz16 := by decide +kernel
set_option maxRecDepth 100000 in
set_option maxHeartbeats 4000000 in
theorem maps16 (w : World) (hM : TabM w) (hT : Tabs w) : Calls Tryz.prog 9 #[] w fun e w' => e = .returned (.bool true) ∧ Fr [] w w' := by
  have hn := (show Calls Tryz.prog 39 #[.agg #[.int .i64 7, .int .i64 224]] w (NewH w 7 224) from hnew w hM hT 7 224 cfg7)
  go_enter Tryz.func9, Tryz.ntmps9
  go_wp2_with fail
  with_reducible refine hn.mono ?_
  rintro e w1 ⟨q, rfl, h1, hq, f1⟩
  have hb := m_begin h1 cfg7 f1 hq
  clear hn h1
  go_wp2_with fail
  with_reducible refine hb.mono ?_
  rintro e w2 ⟨rfl, h2, -⟩
  have ht := (show Calls Tryz.prog 19 #[.pointer (some ⟨q.m, 0, none⟩), .int .i64 9] w2 fun e w' => e = .returned (.tuple #[.int .i64 1136, .int .i64 0]) ∧ M15 w q 7 224 x16.2.2 w' from by
    have := m_take h2 9
    rw [show takeS 7 (lbase 7 224) SS.zero 9 = x16 from rfl, x16v.1, x16v.2] at this
    exact this)
  clear hb h2
  go_wp2_with fail
  with_reducible refine ht.mono ?_
  rintro e w3 ⟨rfl, h3⟩
  have H3 := Lib.hid h3
  have hmp := m_map h3 x16f
  rw [rz16_eq] at hmp
  clear ht h3
  go_wp2_with fail
  with_reducible refine hmp.mono ?_
  rintro e w4 ⟨v, rfl, hO, hl, f4⟩
  obtain ⟨g, cap, rfl, hg, hr⟩ := hO.rowZ (by decide)
  have HR := Lib.hid (fun W (hf : Fr [] w4 W) => hr.fr hf (by simp))
  have hcap := hr.le
  have c4 := hr.cells (k := 4) (r := (1136, 512, 5)) rfl
  have c5 := hr.cells (k := 5) (r := (1648, 512, 6)) rfl
  have c6 := hr.cells (k := 6) (r := (2160, 6144, 7)) rfl
  obtain ⟨p0, p1, p2⟩ := c4
  obtain ⟨p3, p4, p5⟩ := c5
  obtain ⟨p6, p7, p8⟩ := c6
  simp only at p0 p1 p2 p3 p4 p5 p6 p7 p8
  have H4 := Lib.hid (H3.out.fr0 f4)
  have HT := Lib.hid (fun W (hf : Fr [] w4 W) => (show Calls Tryz.prog 42 #[.slice (some ⟨g, 0, none⟩) 7 cap, .int .i64 8304] W fun e w' => e = .returned (.bool true) ∧ Fr [] W w' from ztiles W _ cap rz16 ((HR.out W hf).zb (by decide)) 8304))
  have HA := Lib.hid (fun W (hf : Fr [] w4 W) => m_agree (H4.out.fr0 hf) x16f)
  have HAt := Lib.hid (fun W (hf : Fr [] w4 W) => (show Calls Tryz.prog 43 #[.slice (some ⟨g, 0, none⟩) 7 cap, .int .i64 1136] W fun e w' => e = .returned (.int .i64 5) ∧ Fr [] W w' from zat W _ cap rz16 ((HR.out W hf).zb (by decide)) 1136 (by decide)))
  have hlen : rz16.length = 7 := rfl
  rw [hlen] at hcap ⊢
  have i1 : (7 : Int) ≤ cap := by omega
  clear hr hO hmp
  go_wp2_with fail
  with_reducible refine (HT.out _ (Fr.refl _ _)).mono ?_
  rintro e w5 ⟨rfl, f5⟩
  have F5 := Lib.hid f5
  go_wp2_with fail
  with_reducible refine (HA.out _ F5.out).mono ?_
  rintro e w6 ⟨rfl, f6⟩
  have F6 := Lib.hid (F5.out.trans f6)
  go_wp2_with fail
  with_reducible refine (HAt.out _ F6.out).mono ?_
  rintro e w7 ⟨rfl, f7⟩
  go_wp2_with fail
  go_ret
  exact ⟨rfl, H4.out.f.trans (F6.out.trans f7)⟩
end Go.Proofs.YtgoogihfggndpaaGreatDoor
