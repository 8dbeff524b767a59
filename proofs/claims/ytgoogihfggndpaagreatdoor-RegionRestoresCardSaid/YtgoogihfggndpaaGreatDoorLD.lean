/- Several texts in one. -/
import Derived.Test.YtgoogihfggndpaaGreatDoorGQ
import Derived.Test.YtgoogihfggndpaaGreatDoorLB
import Derived.Test.YtgoogihfggndpaaGreatDoorLA
import Derived.Test.YtgoogihfggndpaaGreatDoorGC
import Derived.Test.YtgoogihfggndpaaGreatDoorGB
import Derived.Test.YtgoogihfggndpaaGreatDoorLC
/- Two memories with slabs alike: the same bytes. -/
namespace Go.Proofs.YtgoogihfggndpaaGreatDoor
set_option linter.unusedVariables false
set_option linter.unusedSimpArgs false
open Go.RowKit

end Go.Proofs.YtgoogihfggndpaaGreatDoor

/- memory.From: a memory of bytes. -/
namespace Go.Proofs.YtgoogihfggndpaaGreatDoor
set_option linter.unusedVariables false
set_option linter.unusedSimpArgs false
open Go.RowKit

/-- May an image be one, of that config? -/
def okI (l : List Nat) (a s : Nat) : Prop := l.length = lsize a s ∧ ∀ k, k < 3 → imN l (8 + 4 * k) 4 = (newT a s).rt k
def FromP (w : World) (l : List Nat) (a s : Nat) (e : Ending) (w' : World) : Prop := Fr [] w w' ∧
  ((okI l a s ∧ ∃ q : MH, e = .returned (.tuple #[.pointer (some ⟨q.m, 0, none⟩), .int .i64 0]) ∧ IsM w' q { a := a, s := s, ks := newK a s, l := l, ft := 0 } ∧ ∀ k ∈ q.blocks, w.heap.size ≤ k) ∨ (¬ okI l a s ∧ e = .returned (.tuple #[.pointer none, .int .i64 41])))
theorem im_rt (a s : Nat) (h : Cfg a s) {k : Nat} (hk : k < 3) : ldV (newT a s).bytes (8 + 4 * k : Nat) 4 = (newT a s).rt k := by
  have hA := at_rt (newT_ok h) k (by omega)
  have e : fldA k = 8 + 4 * k ∧ fldW k = 4 := by
    rcases (by omega : k = 0 ∨ k = 1 ∨ k = 2) with rfl | rfl | rfl <;> exact ⟨rfl, rfl⟩
  rw [e.1, e.2] at hA
  have := ldV_ok (newT a s).bytes (8 + 4 * k) 4 ((newT a s).rt k) (by omega) hA.div (by rw [TM.bytes_len]; exact hA.fit) hA.lt (fun j hj => by
    have hf := hA.fit
    rw [TM.bytes_get _ _ (by omega)]
    exact hA.bytes j hj)
  exact this
set_option maxRecDepth 100000 in
set_option maxHeartbeats 4000000 in
theorem mfrom {w : World} (hM : TabM w) (a s : Nat) (hc : Cfg a s) (ad : Option Addr) (c : Nat) (l : List Nat) (hb : Byt w ad l) : Calls Tryz.prog 44 #[.agg #[.int .i64 a, .int .i64 s], .slice ad l.length c] w (FromP w l a s) := by
  have hnw := fun W (h : TabM W) => tnew W h a s hc
  unfold cfgV NewT at hnw
  have hz := lsize_le a s hc
  have hz4 : lsize a s % 16 = 0 ∧ 240 ≤ lsize a s := by
    have := lsize_4 a s
    have := cfg_sizes hc
    omega
  have F0 := Lib.hid ((Fr.refl [] w).alloc (.cells #[.int .i64 a, .int .i64 s] 23))
  have HB := Lib.hid (fun W (hf : Fr [] w W) => hb.fr hf (by simp))
  have HT := Lib.hid (fun W (hf : Fr [] w W) => hM.fr hf (by simp))
  have HR := Lib.hid (fun k (hk : k < 3) => im_rt a s hc hk)
  have hbl : (newT a s).bytes.length = lsize a s := TM.bytes_len _
  have HC := Lib.hid hc
  obtain ⟨P, hP⟩ : ∃ P, FromP w l a s = P := ⟨_, rfl⟩
  rw [hP]
  have HP := Lib.hid hP.symm
  have hnw0 := hnw _ (HT.out _ F0.out)
  clear hP hb hM hc hnw
  generalize hlen : l.length = n at *
  have HLn := Lib.hid hlen
  clear hlen
  go_enter Tryz.func44, Tryz.ntmps44
  go_wp2_with fail
  with_reducible refine hnw0.mono ?_
  rintro e w1 ⟨q, rfl, h1, hq, f1⟩
  have F1 := Lib.hid (F0.out.trans f1)
  have H1 := Lib.hid h1
  have hst := h1.m.st.cell 1
  have hln := alen_any w1 q.pa q.ga q.cap _ h1.m.ar
  rw [show (newT a s).ms.l.length = lsize a s from hbl] at hln
  simp at hst
  clear hnw0
  have hno : n ≠ lsize a s → ¬ okI l a s := fun h1 h2 => h1 (by rw [← HLn.out]; exact h2.1)
  have HNo := Lib.hid hno
  have HYes := Lib.hid (show n = lsize a s → (∀ k, k < 3 → imN l (8 + 4 * k) 4 = (newT a s).rt k) → okI l a s from fun h1 h2 => ⟨by rw [HLn.out]; exact h1, h2⟩)
  have HNo2 := Lib.hid (show ∀ k, k < 3 → imN l (8 + 4 * k) 4 ≠ (newT a s).rt k → ¬ okI l a s from fun k hk h1 h2 => h1 (h2.2 k hk))
  by_cases hnl : n = lsize a s
  · have b1 : ((n : Int) != (lsize a s : Nat)) = false := by simp [hnl]
    subst hnl
    have hBy := HB.out w (Fr.refl _ _)
    obtain ⟨g0, o0, rfl, -, -⟩ := hBy.at_ 0 (by have := HLn.out; omega)
    have haof := Lib.hid (fun W (hf : Fr [] w W) => aof_yes W ⟨g0, o0, none⟩ c l (HB.out W hf) (by rw [HLn.out]; unfold amayB; simp; omega))
    have HLd := Lib.hid (show ∀ k, k < 3 → ldV l ((8 + 4 * k : Nat) : Int) 4 = imN l (8 + 4 * k) 4 from fun k hk => imN_ld (x := 8 + 4 * k) (k := 4) (.inr rfl) (by omega) (by have := HLn.out; omega))
    rw [HLn.out] at haof
    generalize hsz : lsize a s = sz at *
    have HSz := Lib.hid hsz
    clear hsz
    have hq2 := hq
    clear hno hBy
    go_wp2_with fail
    with_reducible refine hln.mono ?_
    rintro e w2 ⟨rfl, rfl⟩
    go_wp2_with fail
    with_reducible refine (haof.out _ F1.out).mono ?_
    rintro e w3 ⟨p2, g2, cap2, rfl, hA2, hp2, hg2, f3⟩
    have F3 := Lib.hid (F1.out.trans f3)
    have HA2 := Lib.hid hA2
    have H3 := Lib.hid (H1.out.fr0 f3)
    have hst3 := H3.out.m.st.cell 1
    simp at hst3
    clear hst hln f3 hA2
    go_wp2_with fail
    go_loopw [31] (fun v W => ∃ k : Nat, k ≤ 3 ∧ v = .int .i64 k ∧ (∀ j, j < k → imN l (8 + 4 * j) 4 = (newT a s).rt j) ∧ Fr [] w3 W) (fun v _ => 3 - (intOf v).toNat)
    case atStart => exact ⟨0, by omega, rfl, fun j hj => by omega, Fr.refl _ _⟩
    case round =>
      obtain ⟨k, hk, rfl, hok, hFk⟩ := hrel
      have HFk := Lib.hid hFk
      have HOk := Lib.hid hok
      clear hok
      by_cases hlt : k < 3
      · have b2 : decide ((k : Int) < 3) = true := by simp; omega
        have b2' : decide (k < 3) = true := by simp; omega
        have k0 : (0 : Int) ≤ k := by omega
        have k1 : (k : Int) < 3 := by omega
        have wk : IntKind.i64.wrap ((k : Int) + 1) = (k : Int) + 1 := IntWalk.i64_in _ (by omega)
        have hfd : wr.cell? ⟨0, k, none⟩ = some (.int .i64 (8 + 4 * k : Nat)) := by
          rw [(HT.out _ (F3.out.trans hFk)).fld k]
          rcases (by omega : k = 0 ∨ k = 1 ∨ k = 2) with rfl | rfl | rfl <;> rfl
        have hA := aget_any wr p2 g2 cap2 l (HA2.out.fr hFk (by simp) (by simp)) (8 + 4 * k : Nat) 4
        have hN := aget_any wr q.pa q.ga q.cap _ ((H3.out.fr0 hFk).m.ar) (8 + 4 * k : Nat) 4
        rw [HLd.out k hlt] at hA
        rw [show ldV (newT a s).ms.l ((8 + 4 * k : Nat) : Int) 4 = (newT a s).rt k from HR.out k hlt] at hN
        have hst4 := (H3.out.fr0 hFk).m.st.cell 1
        simp at hst4
        have HNo3 := Lib.hid (HNo2.out k hlt)
        have HOk2 := Lib.hid (show imN l (8 + 4 * k) 4 = (newT a s).rt k → ∀ j, j < k + 1 → imN l (8 + 4 * j) 4 = (newT a s).rt j from fun h j hj => by
          rcases (by omega : j < k ∨ j = k) with h1 | rfl
          · exact HOk.out j h1
          · exact h)
        generalize imN l (8 + 4 * k) 4 = X at *
        generalize (newT a s).rt k = Y at *
        generalize placeE l.length ((8 + 4 * k : Nat) : Int) 4 = E1 at *
        generalize placeE (newT a s).ms.l.length ((8 + 4 * k : Nat) : Int) 4 = E2 at *
        generalize 8 + 4 * k = A4 at *
        by_cases hxy : X = Y
        · have b3 : ((X : Int) != Y) = false := by simp [hxy]
          have HO3 := Lib.hid (HOk2.out hxy)
          clear hFk hxy HNo3 HOk2
          go_wp2_with fail
          with_reducible refine hA.mono ?_
          rintro e w4 ⟨rfl, rfl⟩
          go_wp2_with fail
          with_reducible refine hN.mono ?_
          rintro e w4 ⟨rfl, rfl⟩
          go_wp2_with fail
          go_roundw
          case rel => exact ⟨k + 1, by omega, by go_num, HO3.out, HFk.out⟩
          case measure => simp [intOf]; omega
        · have b3 : ((X : Int) != Y) = true := by simp; omega
          have HO3 := Lib.hid (HNo3.out hxy)
          clear hFk hxy HNo3 HOk2
          go_wp2_with fail
          with_reducible refine hA.mono ?_
          rintro e w4 ⟨rfl, rfl⟩
          go_wp2_with fail
          with_reducible refine hN.mono ?_
          rintro e w4 ⟨rfl, rfl⟩
          go_wp2_with fail
          rw [HP.out]
          exact ⟨F3.out.trans HFk.out, .inr ⟨HO3.out, rfl⟩⟩
      · obtain rfl : k = 3 := by omega
        have b2 : decide (((3 : Nat) : Int) < 3) = false := by simp
        have HI := Lib.hid (HYes.out (by first | trivial | rfl) HOk.out)
        have hm4 := (H3.out.fr0 hFk).m
        have hfz := hm4.st.frozen 1
        have hst4 := hm4.st.cell 1
        simp at hst4
        have HFin := Lib.hid (show IsM (wr.setCell ⟨q.m, 1, none⟩ (.pointer (some ⟨p2, 0, none⟩))) ⟨q.m, q.pw, q.bw, p2, g2, cap2⟩ { a := a, s := s, ks := newK a s, l := l, ft := 0 } ∧ Fr [] w (wr.setCell ⟨q.m, 1, none⟩ (.pointer (some ⟨p2, 0, none⟩))) ∧ (∀ k ∈ (⟨q.m, q.pw, q.bw, p2, g2, cap2⟩ : MH).blocks, w.heap.size ≤ k) from by
          have hlt1 := H1.out.m.lt
          have hf13 := F1.out.size
          have hqm := hq q.m (by simp [MH.blocks])
          have hqpw := hq q.pw (by simp [MH.blocks])
          have hqbw := hq q.bw (by simp [MH.blocks])
          have lqm := hlt1 q.m (by simp [MH.blocks])
          have lqpw := hlt1 q.pw (by simp [MH.blocks])
          have lqbw := hlt1 q.bw (by simp [MH.blocks])
          simp only [World.size_alloc] at hqm hqpw hqbw
          have hms : (newT a s).ms = newM a s := (newM_ms HC.out).symm
          have hnes := hm4.nes
          obtain ⟨lk, hwt⟩ := hm4.wt
          rw [hms] at hwt
          have hfs : Fr [q.m] wr (wr.setCell ⟨q.m, 1, none⟩ (.pointer (some ⟨p2, 0, none⟩))) := (Fr.refl [q.m] wr).setCell (.inl (by simp)) _
          refine ⟨⟨hm4.st.set 1 _, ⟨lk, hwt.fr hfs (by simp; omega) (by simp; omega)⟩, (HA2.out.fr hFk (by simp) (by simp)).fr hfs (by simp; omega) (by simp; omega), by show q.bw ≠ g2; omega, HC.out, by show l.length = _; rw [HLn.out, HSz.out], ?_⟩, (F3.out.trans hFk).setCell (.inr (by show w.heap.size ≤ q.m; omega)) _, ?_⟩
          · show l.length = 4 * (newK a s).length
            rw [newK_len, HLn.out, HSz.out]
            omega
          · intro k hk
            simp only [MH.blocks, List.mem_cons, List.not_mem_nil, or_false] at hk
            rcases hk with rfl | rfl | rfl | rfl | rfl <;> omega)
        clear hm4 hFk
        go_wp2_with fail
        rw [HP.out]
        exact ⟨HFin.out.2.1, .inl ⟨HI.out, ⟨q.m, q.pw, q.bw, p2, g2, cap2⟩, rfl, HFin.out.1, HFin.out.2.2⟩⟩
  · have b1 : ((n : Int) != (lsize a s : Nat)) = true := by simp; omega
    have HN := Lib.hid (HNo.out hnl)
    clear hno
    generalize lsize a s = sz at *
    go_wp2_with fail
    with_reducible refine hln.mono ?_
    rintro e w2 ⟨rfl, rfl⟩
    go_wp2_with fail
    rw [HP.out]
    exact ⟨F1.out, .inr ⟨HN.out, rfl⟩⟩
end Go.Proofs.YtgoogihfggndpaaGreatDoor

/- The runs of an image's map: aligned, within it; marking all of them. -/
namespace Go.Proofs.YtgoogihfggndpaaGreatDoor
set_option linter.unusedVariables false
set_option linter.unusedSimpArgs false
open Go.RowKit

theorem withR_ok {n : Nat} (L : List Rn) (r : Rn) (h1 : lastEnd L = r.1) (hL : ∀ x ∈ L, RunOk n x) (hr : RunOk n r) : ∀ x ∈ withR L r, RunOk n x := by
  rcases List.eq_nil_or_concat L with rfl | ⟨M, x, rfl⟩
  · rw [withR_nil]
    intro y hy
    obtain rfl := List.mem_singleton.1 hy
    exact hr
  · rw [List.concat_eq_append] at h1 hL ⊢
    rw [lastEnd_sn] at h1
    rw [withR_snoc]
    have hx := hL x (by simp)
    intro y hy
    split at hy
    · rcases List.mem_append.1 hy with h | h
      · exact hL y (by simp [h])
      · obtain rfl := List.mem_singleton.1 h
        obtain ⟨a1, a2, a3, a4⟩ := hx
        obtain ⟨b1, b2, b3, b4⟩ := hr
        exact ⟨a1, by show (x.2.1 + r.2.1) % 4 = 0; omega, by show x.1 + (x.2.1 + r.2.1) ≤ n; omega, a4⟩
    · rcases List.mem_append.1 hy with h | h
      · exact hL y h
      · obtain rfl := List.mem_singleton.1 h
        exact hr
theorem withR_end (L : List Rn) (r : Rn) (h1 : lastEnd L = r.1) : lastEnd (withR L r) = r.1 + r.2.1 := by
  rcases List.eq_nil_or_concat L with rfl | ⟨M, x, rfl⟩
  · rw [withR_nil]; rfl
  · rw [List.concat_eq_append] at h1 ⊢
    rw [lastEnd_sn] at h1
    rw [withR_snoc]
    split
    · rw [lastEnd_sn]; show x.1 + (x.2.1 + r.2.1) = _; omega
    · rw [lastEnd_sn]
theorem foldR_ok {n : Nat} : ∀ (p L : List Rn) (e y : Nat), Ctg e p y → lastEnd L = e → (∀ x ∈ L, RunOk n x) → (∀ x ∈ p, RunOk n x) → ∀ x ∈ p.foldl withR L, RunOk n x
  | [], L, _, _, _, _, hL, _ => hL
  | r :: p, L, e, y, hc, hE, hL, hp => by
    have h0 := hc.1
    refine foldR_ok p (withR L r) _ y hc.2 (by rw [withR_end L r (by omega)]; omega) (withR_ok L r (by omega) hL (hp r (by simp))) (fun x hx => hp x (by simp [hx]))
theorem ctg_range {b c : Nat} (seen : List Nat) : ∀ k, Ctg b ((List.range k).map (blkM b c seen)) (b + csz c * k)
  | 0 => by show b = b + csz c * 0; omega
  | k + 1 => by
    rw [List.range_succ, List.map_append]
    refine (ctg_range seen k).app ⟨rfl, ?_⟩
    show b + csz c * k + csz c = b + csz c * (k + 1)
    rw [Nat.mul_succ]; omega
theorem slabM_ctg {im : List Nat} {h b n : Nat} {rs : List Rn} (hs : slabM im h b = some rs) (hb : b % 4 = 0) (hn : b + 1024 ≤ n) : Ctg b rs (b + 1024) ∧ ∀ r ∈ rs, RunOk n r := by
  unfold slabM at hs
  split at hs
  · cases hs
  split at hs
  · split at hs
    · have := Option.some.inj hs
      subst this
      exact ⟨⟨rfl, rfl⟩, fun r hr => by obtain rfl := List.mem_singleton.1 hr; exact ⟨hb, by show 1024 % 4 = 0; decide, hn, by show 7 ≤ 8; decide⟩⟩
    · cases hs
  · rename_i h9 h0
    cases hch : chaseL im b (imN im h 2) (nbk (imN im h 2) + 1) (imN im (h + 4) 4) [] with
    | none => rw [hch] at hs; cases hs
    | some seen =>
      rw [hch] at hs
      simp only at hs
      split at hs
      · cases hs
      · have := Option.some.inj hs
        subst this
        generalize imN im h 2 = c at *
        obtain ⟨s1, s2, s3, n1, n2, s6, s7⟩ := csz_tab c (by omega) (by omega)
        have h1 := ctg_range (b := b) (c := c) seen (nbk c)
        have hok : ∀ r ∈ (List.range (nbk c)).map (blkM b c seen), RunOk n r := fun r hr => by
          obtain ⟨k, hk, rfl⟩ := List.mem_map.1 hr
          have hk' := List.mem_range.1 hk
          have hm : csz c * k % 16 = 0 := by rw [Nat.mul_mod, s1]; simp
          have hle : csz c * k + csz c ≤ csz c * nbk c := by rw [← Nat.mul_succ]; exact Nat.mul_le_mul (Nat.le_refl _) hk'
          refine ⟨by show (b + csz c * k) % 4 = 0; omega, by show csz c % 4 = 0; omega, by show b + csz c * k + csz c ≤ n; omega, ?_⟩
          unfold blkM
          show (if k ∈ seen then 6 else 5) ≤ 8
          split <;> omega
        unfold padM
        by_cases hp : 0 < cpad c
        · rw [if_pos hp]
          refine ⟨h1.app ⟨by show b + 1024 - cpad c = _; omega, by show b + csz c * nbk c + cpad c = _; omega⟩, fun r hr => ?_⟩
          rcases List.mem_append.1 hr with h | h
          · exact hok r h
          · obtain rfl := List.mem_singleton.1 h
            exact ⟨by show (b + 1024 - cpad c) % 4 = 0; omega, by show cpad c % 4 = 0; omega, by show b + 1024 - cpad c + cpad c ≤ n; omega, by show 8 ≤ 8; omega⟩
        · rw [if_neg hp, List.append_nil]
          rw [show b + csz c * nbk c = b + 1024 by omega] at h1
          exact ⟨h1, hok⟩
theorem rrun5_ctg (a s : Nat) (h : Cfg a s) : Ctg 0 (rrun5 a s) (lbase a s) := by
  have hz := cfg_sizes h
  obtain ⟨a1, a2, s1, s2, s3⟩ := h
  have hl : lslots a = 128 + 16 * a := rfl
  unfold rrun5 rrun4 rrun3 rpad
  by_cases hp : 0 < lbase a s - (128 + 16 * a + 4 * s)
  · rw [if_pos hp]
    exact ⟨rfl, rfl, rfl, by show 128 + 16 * a = 0 + 8 + 120 + 16 * a; omega, by show 128 + 16 * a + 4 * s = 0 + 8 + 120 + 16 * a + 4 * s; omega, by show 0 + 8 + 120 + 16 * a + 4 * s + (lbase a s - (128 + 16 * a + 4 * s)) = lbase a s; omega⟩
  · rw [if_neg hp]
    exact ⟨rfl, rfl, rfl, by show 128 + 16 * a = 0 + 8 + 120 + 16 * a; omega, by show 0 + 8 + 120 + 16 * a + 4 * s = lbase a s; omega⟩
theorem slabsM_ctg {im : List Nat} {a s : Nat} (hc : Cfg a s) : ∀ (n : Nat) {rs : List Rn}, n ≤ a → slabsM im a s n = some rs → Ctg 0 rs (lbase a s + 1024 * n) ∧ ∀ r ∈ rs, RunOk (lsize a s) r
  | 0, rs, hn, h => by
    have := Option.some.inj h
    subst this
    refine ⟨rrun5_ctg a s hc, fun r hr => ?_⟩
    have := lruns_ok a s hc r
    rw [lruns_eq a s hc] at this
    exact this (by unfold rruns; simp [hr])
  | n + 1, rs, hn, h => by
    rw [slabsM] at h
    cases h1 : slabsM im a s n with
    | none => rw [h1] at h; cases h
    | some r1 =>
      rw [h1] at h
      simp only at h
      cases h2 : slabM im (hdAt n) (lbase a s + 1024 * n) with
      | none => rw [h2] at h; cases h
      | some r2 =>
        rw [h2] at h
        have := Option.some.inj h
        subst this
        have hz := cfg_sizes hc
        obtain ⟨c1, k1⟩ := slabsM_ctg hc n (by omega) h1
        obtain ⟨c2, k2⟩ := slabM_ctg (n := lsize a s) h2 (by omega) (by unfold lsize; omega)
        refine ⟨by rw [show lbase a s + 1024 * (n + 1) = lbase a s + 1024 * n + 1024 by omega]; exact c1.app c2, fun r hr => ?_⟩
        rcases List.mem_append.1 hr with h | h
        · exact k1 r h
        · exact k2 r h
/-- The map of an image: aligned runs. -/
theorem mapM_runs {im : List Nat} {a s : Nat} (hc : Cfg a s) {rz : List Rz} (h : mapM16 im a s = some rz) : ∃ R : List Rn, rz = R.map zOf ∧ ∀ r ∈ R, RunOk (lsize a s) r := by
  unfold mapM16 at h
  cases h1 : slabsM im a s a with
  | none => rw [h1] at h; cases h
  | some rs =>
    rw [h1] at h
    have := Option.some.inj h
    subst this
    obtain ⟨c1, k1⟩ := slabsM_ctg hc a (Nat.le_refl _) h1
    have hz := lsize_le a s hc
    refine ⟨rs.foldl withR [], ?_, foldR_ok rs [] 0 _ c1 rfl (by simp) k1⟩
    unfold joinZ
    rw [show ([] : List Rz) = ([] : List Rn).map zOf from rfl]
    exact fold_join rs [] 0 _ c1 (by unfold lsize at hz; omega) rfl (by simp)
end Go.Proofs.YtgoogihfggndpaaGreatDoor

/- region: Restore of an image that may be one. -/
namespace Go.Proofs.YtgoogihfggndpaaGreatDoor
set_option linter.unusedVariables false
set_option linter.unusedSimpArgs false
open Go.RowKit

set_option maxHeartbeats 1000000 in
theorem mmarkR {w : World} {q : MH} {z : MS} (h : IsM w q z) (r : Rn) (hr : RunOk (4 * z.ks.length) r) : Calls Tryz.prog 45 #[.pointer (some ⟨q.m, 0, none⟩), .int .i64 r.1, .int .i64 r.2.1, .int .i64 r.2.2] w fun e w' => e = .returned (.int .i64 0) ∧ IsM w' q { z with ks := markR z.ks r } ∧ Fr [q.bw] w w' := by
  obtain ⟨x, m, k⟩ := r
  obtain ⟨r1, r2, r3, r4⟩ := hr
  simp only at r1 r2 r3 r4
  have hn := fun W (hh : IsM W q z) => hh.none
  obtain ⟨lk, hw⟩ := h.wt
  have hmk := mark_ok w q.pw q.bw z.ks lk z.ft x m (x / 4) ((x + m) / 4) k hw (by omega) (by omega) r4 (by omega) (by omega)
  have hst := h.st.cell 0
  simp at hst
  have HF := Lib.hid (fun w' (hw' : IsW w' q.pw q.bw (setR z.ks (x / 4) ((x + m) / 4) k) lk z.ft) (hf : Fr [q.bw] w w') => (show IsM w' q { z with ks := markR z.ks (x, m, k) } from by
    have hne := h.nes
    refine ⟨h.st.fr hf (by simp; omega), ⟨lk, hw'⟩, h.ar.fr hf (by simp; omega) (by simp; omega), h.ne, h.cfg, h.size, ?_⟩
    show z.l.length = 4 * (markR z.ks (x, m, k)).length
    rw [markR_len]
    exact h.grains))
  have hn0 := hn w h
  clear h hw
  simp only
  go_enter Tryz.func45, Tryz.ntmps45
  go_wp2_with fail
  with_reducible refine hn0.mono ?_
  rintro e w1 ⟨rfl, rfl⟩
  go_wp2_with fail
  with_reducible refine hmk.mono ?_
  rintro e w2 ⟨rfl, h2, f2⟩
  go_wp2_with fail
  go_ret
  exact ⟨rfl, HF.out _ h2 f2, f2⟩
def RestP (w : World) (l : List Nat) (a s : Nat) (ks : List Nat) (e : Ending) (w' : World) : Prop := ∃ q : MH, e = .returned (.tuple #[.pointer (some ⟨q.m, 0, none⟩), .int .i64 0]) ∧ IsM w' q { a := a, s := s, ks := ks, l := l, ft := 0 } ∧ (∀ k ∈ q.blocks, w.heap.size ≤ k) ∧ Fr [] w w'
set_option maxRecDepth 100000 in
set_option maxHeartbeats 4000000 in
theorem zrestore {w : World} (hM : TabM w) (a s : Nat) (hc : Cfg a s) (ad : Option Addr) (c : Nat) (l : List Nat) (hb : Byt w ad l) (hI : okI l a s) (R : List Rn) (hm : mapM16 l a s = some (R.map zOf)) (hR : ∀ r ∈ R, RunOk (lsize a s) r) :
    Calls Tryz.prog 10 #[.agg #[.int .i64 a, .int .i64 s], .slice ad l.length c] w (RestP w l a s (R.foldl markR (newK a s))) := by
  have F0 := Lib.hid ((Fr.refl [] w).alloc (.cells #[.int .i64 a, .int .i64 s] 23))
  have hfr := mfrom (hM.fr F0.out (by simp)) a s hc ad c l (hb.fr F0.out (by simp))
  unfold FromP at hfr
  have HMap := Lib.hid (fun W (hMW : TabM W) q (h : IsM W q { a := a, s := s, ks := newK a s, l := l, ft := 0 }) => zmapM hMW h hm)
  have HT := Lib.hid (fun W (hf : Fr [] w W) => hM.fr hf (by simp))
  have HI := Lib.hid hI
  have HR := Lib.hid hR
  have HK := Lib.hid (show ∀ k, 4 * ((R.take k).foldl markR (newK a s)).length = lsize a s from fun k => by
    rw [marks_len, newK_len]
    have := lsize_4 a s
    omega)
  obtain ⟨P, hP⟩ : ∃ P, RestP w l a s (R.foldl markR (newK a s)) = P := ⟨_, rfl⟩
  rw [hP]
  have HP := Lib.hid hP.symm
  clear hP hM hb hI hm hR hc
  generalize l.length = n at *
  go_enter Tryz.func10, Tryz.ntmps10
  go_wp2_with fail
  with_reducible refine hfr.mono ?_
  rintro e w1 ⟨f1, ⟨_, q, rfl, h1, hq⟩ | ⟨hno, _⟩⟩
  rotate_left
  · exact absurd HI.out hno
  have F1 := Lib.hid (F0.out.trans f1)
  have H1 := Lib.hid h1
  have HQ := Lib.hid (show ∀ k ∈ q.blocks, w.heap.size ≤ k from fun k hk => by have := hq k hk; simp only [World.size_alloc] at this; omega)
  have hmp := HMap.out _ (HT.out _ F1.out) q h1
  clear hfr f1 h1 hq
  go_wp2_with fail
  with_reducible refine hmp.mono ?_
  rintro e w2 ⟨v, rfl, hO, hrl, f2⟩
  have hrl' := hrl
  rw [List.length_map] at hrl'
  have hlt := H1.out.lt q.bw (by simp [MH.blocks])
  obtain ⟨ax, cx, rfl, hzx, hax⟩ := hO.zb hrl
  rw [List.length_map]
  have HZ := Lib.hid (fun W (hf : Fr [q.bw] w2 W) (h0 : 0 < R.length) => hzx.fr hf (fun g o e hm => by
    have := hax g o e (by rw [List.length_map]; exact h0)
    simp at hm
    omega))
  have H2 := Lib.hid (H1.out.fr0 f2)
  have F2 := Lib.hid (F1.out.trans f2)
  have HRl := Lib.hid (show (R.map zOf).length = R.length from List.length_map ..)
  clear hmp hO hzx hax f2 hrl hlt
  generalize hN : R.length = N at *
  have HN := Lib.hid hN
  clear hN
  go_wp2_with fail
  go_loopw [30] (fun v W => ∃ k : Nat, k ≤ N ∧ v = .int .i64 k ∧ IsM W q { a := a, s := s, ks := (R.take k).foldl markR (newK a s), l := l, ft := 0 } ∧ Fr [q.bw] w2 W) (fun v _ => N - (intOf v).toNat)
  case atStart => exact ⟨0, by omega, rfl, by simpa using H2.out, Fr.refl _ _⟩
  case round =>
    obtain ⟨k, hk, rfl, hIk, hFk⟩ := hrel
    have HIk := Lib.hid hIk
    have HFk := Lib.hid hFk
    by_cases hlt : k < N
    · obtain ⟨r, hr⟩ : ∃ r, R[k]? = some r := ⟨_, List.getElem?_eq_getElem (by rw [HN.out]; exact hlt)⟩
      obtain ⟨g, o, rfl, hg, hcc⟩ := (HZ.out _ hFk (by omega)).row (by rw [HRl.out]; omega)
      obtain ⟨c0, c1, c2⟩ := hcc k (zOf r) (by rw [List.getElem?_map, hr]; rfl)
      have hok := HR.out r (List.mem_of_getElem? hr)
      have HTk := Lib.hid (show (R.take (k + 1)).foldl markR (newK a s) = markR ((R.take k).foldl markR (newK a s)) r from by
        rw [List.take_add_one, hr, Option.toList_some, List.foldl_append]; rfl)
      have hmk := mmarkR (HIk.out.fr0 ((Fr.refl [] wr).alloc (.cells #[.int .i64 r.1, .int .i64 r.2.1, .int .i64 r.2.2] 84))) r (by rw [HK.out]; exact hok)
      obtain ⟨x, m, j⟩ := r
      simp only [zOf] at c0 c1 c2 hmk
      have b0 : decide ((k : Int) < N) = true := by simp; omega
      have b0' : decide (k < N) = true := by simp; omega
      have wk : IntKind.i64.wrap ((k : Int) + 1) = (k : Int) + 1 := IntWalk.i64_in _ (by omega)
      have i0 : (0 : Int) ≤ k := by omega
      have i1 : (k : Int) < N := by omega
      clear hcc hr hok hIk hFk
      go_wp2_with fail
      with_reducible refine hmk.mono ?_
      rintro e w3 ⟨rfl, h3, f3⟩
      go_wp2_with fail
      go_roundw
      case rel => exact ⟨k + 1, by omega, by go_num, by rw [HTk.out]; exact h3, (HFk.out.alloc _).trans f3⟩
      case measure => simp [intOf]; omega
    · obtain rfl : k = N := by omega
      have b0 : decide ((k : Int) < k) = false := by simp
      have b0' : decide (k < k) = false := by simp
      have HTk := Lib.hid (show R.take k = R from List.take_of_length_le (by rw [HN.out]; exact Nat.le_refl _))
      clear hIk hFk
      go_wp2_with fail
      rw [HP.out]
      refine ⟨q, rfl, ?_, HQ.out, F2.out.step HFk.out (fun x hx => .inr (HQ.out x (by simp at hx; subst hx; simp [MH.blocks])))⟩
      have := HIk.out
      rw [HTk.out] at this
      exact this
end Go.Proofs.YtgoogihfggndpaaGreatDoor

/- Layer 16: two memories alike. -/
namespace Go.Proofs.YtgoogihfggndpaaGreatDoor
set_option linter.unusedVariables false
set_option linter.unusedSimpArgs false
open Go.RowKit

theorem zOf_inj : ∀ {A B : List Rn}, A.map zOf = B.map zOf → A = B
  | [], [], _ => rfl
  | [], _ :: _, h => by simp at h
  | _ :: _, [], h => by simp at h
  | (a, b, c) :: A, (a', b', c') :: B, h => by
    simp only [List.map_cons, List.cons.injEq, zOf, Prod.mk.injEq] at h
    obtain ⟨⟨h1, h2, h3⟩, h4⟩ := h
    rw [zOf_inj h4, Int.ofNat_inj.1 h1, Int.ofNat_inj.1 h2, Int.ofNat_inj.1 h3]
theorem Sla.symm {t u : TM} (h : Sla t u) : Sla u t := ⟨h.a.symm, h.s.symm, h.sl.symm, h.ft.symm, fun f hf => (h.rt f hf).symm⟩
theorem Keep.at_ {t u : TM} {S : SS} {P : Nat → Prop} (h : Keep t u S P) {x n : Nat} (hx : Lv t.a S x n) (hp : P x) : ∀ k, k < n → byteAt u (x + k) = byteAt t (x + k) := by
  obtain ⟨i, hi, hy, rfl⟩ := hx
  exact h i hi x hy hp
theorem IsH.apart {W W' : World} {q q' : MH} {t u : TM} (h : IsH W q t) (h' : IsH W q' u) (ap : ∀ k ∈ q.blocks, k ∉ q'.blocks) (hf : Fr q'.blocks W W') : IsH W' q t :=
  ⟨h.m.fr hf ap (fun k hk hm => by have := h'.m.hi k hm; omega), h.tabs.fr hf h'.hi, h.hi⟩
section
variable {w0 wb W W' : World} {q q' : MH} {S : SS}
end
end Go.Proofs.YtgoogihfggndpaaGreatDoor
