/- ref16: Map. -/
import Derived.Test.YtgoogihfggndpaaGreatDoorZf
import Derived.Test.YtgoogihfggndpaaGreatDoorKT
import Derived.Test.YtgoogihfggndpaaGreatDoorZe
import Derived.Test.YtgoogihfggndpaaGreatDoorZd
import Derived.Test.YtgoogihfggndpaaGreatDoorGJ
import Derived.Test.YtgoogihfggndpaaGreatDoorLA
import Derived.Test.YtgoogihfggndpaaGreatDoorLB
namespace Go.Proofs.YtgoogihfggndpaaGreatDoor
set_option linter.unusedVariables false
set_option linter.unusedSimpArgs false
open Go.RowKit

/-- Within a region: what holds behind every operation may be made stronger. -/
theorem wpAnyH_strong2 {P : Program} {md : Region.Mode} {ops : Array Oper} {Q : Exit → Act → World → Prop} {S S' : World → Prop} (hS : ∀ w, S' w → S w) :
    ∀ f rest a w, wpAnyH P md ops Q S' f rest a w → wpAnyH P md ops Q S f rest a w
  | 0, _, _, _, h => h
  | f + 1, _, _, _, h => ⟨h.1, fun i hi => wpOp_mono (fun a' w' h' => ⟨hS _ h'.1, wpAnyH_strong2 hS f _ a' w' h'.2⟩) (h.2 i hi)⟩
def seenF (sn : List Nat) (j : Nat) : Int := if j ∈ sn then 1 else 0
theorem slabsM_len {im : List Nat} {a s : Nat} (h : Cfg a s) : ∀ n rs, slabsM im a s n = some rs → rs.length ≤ 5 + 33 * n
  | 0, rs, e => by
    unfold slabsM at e
    have := Option.some.inj e
    subst this
    exact (rrun5_end a s h).2
  | n + 1, rs, e => by
    unfold slabsM at e
    cases h1 : slabsM im a s n with
    | none => rw [h1] at e; cases e
    | some r1 =>
      rw [h1] at e
      simp only at e
      cases h2 : slabM im (hdAt n) (lbase a s + 1024 * n) with
      | none => rw [h2] at e; cases e
      | some r2 =>
        rw [h2] at e
        have := Option.some.inj e
        subst this
        have k1 := slabsM_len h n r1 h1
        have k2 := (slabM_end (L := []) h2).2
        rw [List.length_append]
        omega
theorem mapM_none {im : List Nat} {a s n : Nat} (hn : n ≤ a) (h : slabsM im a s n = none) : mapM16 im a s = none := by
  unfold mapM16
  rw [slabsM_none h a hn]
theorem slabs_no {im : List Nat} {a s j : Nat} {rs : List Rn} (h : slabsM im a s j = some rs) (hn : slabM im (hdAt j) (lbase a s + 1024 * j) = none) : slabsM im a s (j + 1) = none := by
  unfold slabsM
  rw [h]
  simp only [hn]
theorem slabs_yes {im : List Nat} {a s j : Nat} {rs r : List Rn} (h : slabsM im a s j = some rs) (hn : slabM im (hdAt j) (lbase a s + 1024 * j) = some r) : slabsM im a s (j + 1) = some (rs ++ r) := by
  unfold slabsM
  rw [h]
  simp only [hn]
section
variable {im : List Nat} {h b c l f : Nat}
theorem slabM_gt (hc : imN im h 2 = c) (h9 : 9 < c) : slabM im h b = none := by
  unfold slabM
  rw [hc, if_pos h9]
theorem slabM_0 (hc : imN im h 2 = 0) (hl : imN im (h + 2) 2 = l) (hf : imN im (h + 4) 4 = f) : slabM im h b = if l = 0 ∧ f = 0 ∧ zeroM im b = true then some [(b, 1024, 7)] else none := by
  unfold slabM
  rw [hc, hl, hf, if_neg (by decide), if_pos rfl]
theorem slabM_c (hc : imN im h 2 = c) (hl : imN im (h + 2) 2 = l) (hf : imN im (h + 4) 4 = f) (h9 : ¬ 9 < c) (h0 : c ≠ 0) : slabM im h b = match chaseL im b c (nbk c + 1) f [] with
    | none => none
    | some seen => if seen.length = nbk c ∨ l ≠ nbk c - seen.length then none else some ((List.range (nbk c)).map (blkM b c seen) ++ padM b c) := by
  unfold slabM
  rw [hc, hl, hf, if_neg h9, if_neg h0]
  rfl
end
theorem chase_fin (l : List Nat) (b c n : Nat) (sn : List Nat) : chaseL l b c (n + 1) 0 sn = some sn := by
  unfold chaseL
  rw [if_pos rfl]
theorem chase_none {l : List Nat} {b c n f : Nat} {sn : List Nat} (hf : f ≠ 0) (h : idxN b c f = none) : chaseL l b c (n + 1) f sn = none := by
  unfold chaseL
  rw [if_neg hf, h]
theorem chase_twice {l : List Nat} {b c n f k : Nat} {sn : List Nat} (hf : f ≠ 0) (h : idxN b c f = some k) (hk : k ∈ sn) : chaseL l b c (n + 1) f sn = none := by
  conv => lhs; unfold chaseL
  rw [if_neg hf, h]
  simp only [if_pos hk]
theorem chase_step {l : List Nat} {b c n f k : Nat} {sn : List Nat} (hf : f ≠ 0) (h : idxN b c f = some k) (hk : k ∉ sn) : chaseL l b c (n + 1) f sn = chaseL l b c n (imN l (f + 4) 4) (k :: sn) := by
  conv => lhs; unfold chaseL
  rw [if_neg hf, h]
  simp only [if_neg hk]
theorem nodup_lt2 : ∀ (N : Nat) (l : List Nat), l.Nodup → (∀ x ∈ l, x < N) → l.length ≤ N := by
  intro N
  induction N with
  | zero => intro l _ h; cases l with
    | nil => exact Nat.le_refl _
    | cons a l => exact absurd (h a (List.mem_cons_self ..)) (Nat.not_lt_zero _)
  | succ N ih =>
    intro l hn h
    have h1 := ih (l.erase N) (hn.erase N) (fun x hx => by
      have h2 := h x (List.mem_of_mem_erase hx)
      have h3 : x ≠ N := fun e => by subst e; exact hn.not_mem_erase hx
      omega)
    have := List.length_erase_le (a := N) (l := l)
    by_cases hm : N ∈ l
    · have := List.length_erase_of_mem hm
      omega
    · rw [List.erase_of_not_mem hm] at h1
      omega
theorem nodup_le {sn : List Nat} {M : Nat} (h : sn.Nodup) (hl : ∀ x ∈ sn, x < M) : sn.length ≤ M :=
  nodup_lt2 M sn h hl
theorem seenF_cons (k : Nat) (sn : List Nat) (j : Nat) : seenF (k :: sn) j = if j = k then 1 else seenF sn j := by
  unfold seenF
  by_cases h : j = k
  · rw [if_pos h, if_pos (by rw [h]; exact List.mem_cons_self)]
  · rw [if_neg h]
    have : j ∈ k :: sn ↔ j ∈ sn := by simp [h]
    simp only [this]
theorem zero_of (im : List Nat) (b : Nat) (hb : b + 1024 ≤ im.length) : (((im.drop b).take 1024) == List.replicate 1024 0) = zeroM im b := by
  have hl : ((im.drop b).take 1024).length = 1024 := by simp; omega
  unfold zeroM
  generalize (im.drop b).take 1024 = L at *
  rw [Bool.eq_iff_iff, beq_iff_eq, List.all_eq_true]
  constructor
  · intro h x hx
    rw [h] at hx
    simpa using List.eq_of_mem_replicate hx
  · intro h
    exact List.eq_replicate_iff.2 ⟨hl, fun x hx => by simpa using h x hx⟩
def MapX (w : World) (im : List Nat) (a s : Nat) (e : Ending) (w' : World) : Prop := Fr [] w w' ∧ match mapM16 im a s with
  | none => e = .returned (.tuple #[.slice none 0 0, .int .i64 41])
  | some rz => ∃ v, e = .returned (.tuple #[v, .int .i64 0]) ∧ OwnZ w' w.heap.size v rz ∧ rz.length ≤ 1048576
theorem MapX.no {w w' : World} {im : List Nat} {a s : Nat} (hf : Fr [] w w') (h : mapM16 im a s = none) : MapX w im a s (.returned (.tuple #[.slice none 0 0, .int .i64 41])) w' := by
  unfold MapX
  rw [h]
  exact ⟨hf, rfl⟩
set_option maxRecDepth 100000 in
set_option maxHeartbeats 8000000 in
theorem xmap16 {w : World} (a s : Nat) (hc : Cfg a s) (ad : Option Addr) (c : Nat) (im : List Nat) (hb : Byt w ad im) (hlen : im.length = lsize a s) (hcap : im.length ≤ c) :
    Calls Tryz.prog 47 #[.agg #[.int .i64 a, .int .i64 s], .slice ad im.length c] w (MapX w im a s) := by
  obtain ⟨w0, hw0⟩ : ∃ w0, w.alloc (.cells #[.int .i64 a, .int .i64 s] 23) = w0 := ⟨_, rfl⟩
  have F0 := Lib.hid (show Fr [] w w0 from hw0 ▸ (Fr.refl [] w).alloc _)
  have B0 := Lib.hid (show Blk w0 w.heap.size 23 #[.int .i64 a, .int .i64 s] from hw0 ▸ Blk.new w 23 #[.int .i64 a, .int .i64 s])
  have HIM := Lib.hid (fun W (hf : Fr [] w0 W) => hb.fr (F0.out.trans hf) (by simp))
  have HH := Lib.hid (fun W j (hj : j < a) => xheadat9 (w := W) a s j hc hj)
  have HS := Lib.hid (fun W j (hj : j < a) => xslabat9 (w := W) a s j hc hj)
  have hr9 := xruns9 (w := w0) a s hc
  have ha := hc.a2
  have hsz := cfg_sizes hc
  have hle := lsize_le a s hc
  have hr5 := rrun5_end a s hc
  have HSL := Lib.hid (fun n rs (h : slabsM im a s n = some rs) => slabsM_len hc n rs h)
  obtain ⟨P, hP⟩ : ∃ P, MapX w im a s = P := ⟨_, rfl⟩
  rw [hP]
  have HP := Lib.hid hP.symm
  have HN := Lib.hid (fun W (hf : Fr [] w W) (h : mapM16 im a s = none) => (show P (.returned (.tuple #[.slice none 0 0, .int .i64 41])) W from hP ▸ MapX.no hf h))
  have HNN := Lib.hid (fun n (hn : n ≤ a) (h : slabsM im a s n = none) => mapM_none hn h)
  obtain ⟨g1, o1, rfl, -, -⟩ := hb.at_ 0 (by omega)
  have HSZ := Lib.hid hsz
  have HLN := Lib.hid hlen
  have HCP := Lib.hid hcap
  clear hP hb hc hsz hlen hcap
  have HW0 := Lib.hid hw0
  rw [← hw0] at hr9
  clear hw0
  go_enter Tryz.func47, Tryz.ntmps47
  have d0 := (Blk.new w 23 #[.int .i64 a, .int .i64 s]).cell 0
  have d1 := (Blk.new w 23 #[.int .i64 a, .int .i64 s]).cell 1
  simp only [List.getElem?_toArray, List.getElem?_cons_zero, List.getElem?_cons_succ] at d0 d1
  go_wp2_with fail
  with_reducible refine hr9.mono ?_
  rw [HW0.out]
  rintro e w1 ⟨v, rfl, ho, f1⟩
  have hlr : (rruns a s).length = (rrun5 a s).length + 1 := by unfold rruns; simp
  obtain ⟨g, cap, rfl, hg, hr⟩ := ho.rowR (by omega)
  have hr' : RowR w1 g cap (rrun5 a s) := by unfold rruns at hr; exact hr.pre
  have f2 : Fr [] w0 (w1.alloc (.cells #[] 84)) := f1.alloc _
  have ho0 : OwnR (w1.alloc (.cells #[] 84)) w0.heap.size (.slice (some ⟨w1.heap.size, 0, none⟩) 0 0) [] := ownR_base f1.size (ownR0 w1)
  obtain ⟨v2, w2, E1, ho2, hg2⟩ := run_appRR _ _ _ [] ho0 g cap (rrun5 a s) (hr'.fr ((Fr.refl [] w1).alloc _) (by simp)) _ rfl cap (by simp; omega) f2.size
  rw [List.nil_append] at ho2
  have f3 : Fr [] w0 w2 := own_fr ho0 hg2 f2 (Nat.le_refl _)
  have hle2 := hr.le
  rw [hlr] at hle2 ⊢
  have HO2 := Lib.hid (show OwnR w2 w0.heap.size v2 (rrun5 a s) from ho2)
  have HS0 := Lib.hid (show slabsM im a s 0 = some (rrun5 a s) from rfl)
  have F3 := Lib.hid f3
  have hE := Lib.hid E1
  generalize hn5 : (rrun5 a s).length = n5 at *
  have wl : IntKind.i64.wrap (((n5 + 1 : Nat) : Int) - 1) = (n5 : Int) := by rw [IntWalk.i64_in _ (by omega)]; omega
  generalize hn6 : n5 + 1 = n6 at *
  have m0 : (0 : Int) ≤ n5 := by omega
  have m1 : (n5 : Int) ≤ cap := by omega
  have m1' : n5 ≤ cap := by omega
  clear ho hr hr' f1 f2 f3 ho0 E1 ho2 hg2 hr9 d0 d1
  go_wp2_with (at_builtin; refine wpList_app0 rfl (.tmp 23) (.tmp 28) 37 rfl rfl _ _ _ _ rfl rfl hE.out ?_)
  clear wl hn6 hlr hle2 m0 m1 m1' hr5 hn5 hE
  go_loopw [6, 7] (fun v i W => ∃ (j : Nat) (u : Value) (rs : List Rn), u = v ∧ j ≤ a ∧ i = .int .i64 j ∧ Fr [] w0 W ∧ slabsM im a s j = some rs ∧ OwnR W w0.heap.size u rs) (fun _ i _ => a - (intOf i).toNat)
  case atStart => exact ⟨0, _, _, rfl, by omega, rfl, F3.out, HS0.out, HO2.out⟩
  case round =>
    clear HO2 F3 HS0
    obtain ⟨j, u, rs, rfl, hj, rfl, hF, hrs, hO⟩ := hrel
    have HF := Lib.hid hF
    have HO := Lib.hid hO
    have HRS := Lib.hid hrs
    have HRL := Lib.hid (HSL.out j rs hrs)
    have DC := Lib.hid (fun W (hf : Fr [] w0 W) => (show W.cell? ⟨w.heap.size, 0, none⟩ = some (.int .i64 a) ∧ W.cell? ⟨w.heap.size, 1, none⟩ = some (.int .i64 s) from And.intro ((B0.out.fr hf (by simp)).cell 0) ((B0.out.fr hf (by simp)).cell 1)))
    obtain ⟨d0, d1⟩ := DC.out _ hF
    clear hF hO hrs
    by_cases hja : j < a
    · have b1 : decide ((j : Int) < a) = true := by simp; omega
      have b1' : decide (j < a) = true := by simp; omega
      have wj : IntKind.i64.wrap ((j : Int) + 1) = (j : Int) + 1 := IntWalk.i64_in _ (by omega)
      have hh := HH.out wr j hja
      have hs := fun W => HS.out W j hja
      have HSN := Lib.hid (fun (hn : slabM im (hdAt j) (lbase a s + 1024 * j) = none) => HNN.out (j + 1) (by omega) (slabs_no HRS.out hn))
      have HSY := Lib.hid (fun r (hn : slabM im (hdAt j) (lbase a s + 1024 * j) = some r) => slabs_yes HRS.out hn)
      have hz := HSZ.out
      have hl := HLN.out
      have hcp := HCP.out
      have hh8 : hdAt j + 8 ≤ im.length := by unfold hdAt; omega
      have hb8 : lbase a s + 1024 * j + 1024 ≤ im.length := by omega
      have hb0 : 240 ≤ lbase a s + 1024 * j := by omega
      have hlm : im.length ≤ 131072 := by omega
      clear hz hl hcp
      generalize hhe : hdAt j = h at *
      generalize hbe : lbase a s + 1024 * j = b at *
      have HNM := Lib.hid (fun W (hf : Fr [] w0 W) x k (hk : k ≤ 4) (hx : x + k ≤ im.length) => xnum16 (w := W) (some ⟨g1, o1, none⟩) c im (HIM.out W hf) x k hk hx)
      have wh2 : IntKind.i64.wrap ((h : Int) + 2) = (h : Int) + 2 := IntWalk.i64_in _ (by omega)
      have wh4 : IntKind.i64.wrap ((h : Int) + 4) = (h : Int) + 4 := IntWalk.i64_in _ (by omega)
      have HI8 := Lib.hid hh8
      have HB8 := Lib.hid hb8
      clear hhe hbe
      go_wp2_with fail
      with_reducible refine hh.mono ?_
      rintro e w3 ⟨rfl, f3⟩
      have F3 := Lib.hid (HF.out.trans f3)
      have F3r := Lib.hid f3
      obtain ⟨d0, d1⟩ := DC.out _ F3.out
      clear hh f3
      go_wp2_with fail
      with_reducible refine (hs _).mono ?_
      rintro e w4 ⟨rfl, f4⟩
      have F4 := Lib.hid (F3.out.trans f4)
      have N1 := Lib.hid (show Calls Tryz.prog 112 #[.slice (some ⟨g1, o1, none⟩) im.length c, .int .i64 h, .int .i64 2] w4 _ from HNM.out _ F4.out h 2 (by omega) (by omega))
      have N2 := Lib.hid (show Calls Tryz.prog 112 #[.slice (some ⟨g1, o1, none⟩) im.length c, .int .i64 ((h : Int) + 2), .int .i64 2] w4 _ from HNM.out _ F4.out (h + 2) 2 (by omega) (by omega))
      have N3 := Lib.hid (show Calls Tryz.prog 112 #[.slice (some ⟨g1, o1, none⟩) im.length c, .int .i64 ((h : Int) + 4), .int .i64 4] w4 _ from HNM.out _ F4.out (h + 4) 4 (by omega) (by omega))
      have HO4 := Lib.hid (show OwnR w4 w0.heap.size u rs from own_keep (own_keep HO.out (F3r.out)) f4)
      clear hs f4 HO
      go_wp2_with fail
      with_reducible refine N1.out.mono ?_
      rintro e w5 ⟨rfl, rfl⟩
      go_wp2_with fail
      with_reducible refine N2.out.mono ?_
      rintro e w5 ⟨rfl, rfl⟩
      go_wp2_with fail
      with_reducible refine N3.out.mono ?_
      rintro e w5 ⟨rfl, rfl⟩
      clear N1 N2 N3
      have hf1 : imN im (h + 4) 4 < 4294967296 := ldTo_lt32 (k := 4) (by decide) (HIM.out _ F4.out).byte
      have HM0 := Lib.hid (fun hc => slabM_0 (im := im) (h := h) (b := b) hc rfl rfl)
      have HMG := Lib.hid (fun h9 => slabM_gt (im := im) (h := h) (b := b) rfl h9)
      have HMC := Lib.hid (fun h9 h0 => slabM_c (im := im) (h := h) (b := b) rfl rfl rfl h9 h0)
      generalize imN im h 2 = c1 at *
      generalize imN im (h + 2) 2 = l1 at *
      generalize imN im (h + 4) 4 = f1 at *
      have F04 := Lib.hid (F0.out.trans F4.out)
      by_cases h9 : 9 < c1
      · have b2 : decide ((9 : Int) < (c1 : Int)) = true := by simp; omega
        have b2' : decide (9 < c1) = true := by simp; omega
        have HNo := Lib.hid (HN.out _ F04.out (HSN.out (HMG.out h9)))
        clear HM0 HMG HMC HSN HSY d0 d1
        go_wp2_with fail
        exact HNo.out
      have b2 : decide ((9 : Int) < (c1 : Int)) = false := by simp; omega
      have b2' : decide (9 < c1) = false := by simp; omega
      by_cases h0 : c1 = 0
      · subst h0
        have HM := Lib.hid (HM0.out rfl)
        clear HM0 HMG HMC h9 b2 b2'
        by_cases hl0 : l1 = 0
        · by_cases hf0 : f1 = 0
          · have hz0 := zero_of im b hb8
            obtain ⟨q, hq⟩ : ∃ q : Bool, zeroM im b = q := ⟨_, rfl⟩
            have hcb : ¬ c = b := by have := HCP.out; omega
            have hs0 : (0 : Int) ≤ (b : Int) + 1024 := by omega
            have hs1 : ((b : Int) + 1024).toNat = b + 1024 := by omega
            have hs2 : b ≤ b + 1024 := by omega
            have hs3 : b + 1024 - b = 1024 := by omega
            have hc1 : (b : Int) + 1024 ≤ c := by have := HCP.out; omega
            have wb : IntKind.i64.wrap ((b : Int) + 1024) = (b : Int) + 1024 := IntWalk.i64_in _ (by omega)
            have HV1 := Lib.hid (fun W (hf : Fr [] w5 W) => (show (convert 24 9 (.slice (some ⟨g1, o1 + b, none⟩) 1024 (c - b))).run Tryz.prog W = .ok (.string (strOf ((im.drop b).take 1024))) W from by
              have := conv_str W _ (c - b) _ (byt_sub (HIM.out W (F4.out.trans hf)) b 1024 hb8)
              rw [show ((im.drop b).take 1024).length = 1024 by simp; omega] at this
              exact this))
            have HV2 := Lib.hid (fun W n (hB : Blk W n 5 (bytes (List.replicate 1024 0))) => (show (convert 24 9 (.slice (some ⟨n, 0, none⟩) 1024 1024)).run Tryz.prog W = .ok (.string (strOf (List.replicate 1024 0))) W from by
              have := conv_str W _ 1024 _ (hB.byt (fun x hx => by rw [List.eq_of_mem_replicate hx]; decide) (by simp))
              rw [List.length_replicate] at this
              exact this))
            have HE5 := Lib.hid (show ((strOf ((im.drop b).take 1024)).toList == (strOf (List.replicate 1024 0)).toList) = q from by
              rw [strOf_eq _ _ (fun x hm => (HIM.out _ F4.out).byte x (List.mem_of_mem_drop (List.mem_of_mem_take hm))) (fun x hx => by rw [List.eq_of_mem_replicate hx]; decide), hz0, hq])
            have e5 := HE5.out
            have HMq := HM.out
            rw [hq] at HMq
            have HQ := Lib.hid HMq
            subst hl0
            subst hf0
            have hmk : ∀ W, (Instr.makeSlice 24 (.int .i64 1024) (.int .i64 1024)).run Tryz.prog W = .ok (.slice (some ⟨W.heap.size, 0, none⟩) 1024 1024) (W.alloc (.cells (bytes (List.replicate 1024 0)) 5)) := fun W => run_make_bytes (P := Tryz.prog) 24 5 Tryz.underlying24 info_u8 .i64 .i64 1024 (by decide) W
            have hY := HV1.out w5.drew (Fr.refl _ _).drew
            clear HM hz0 hq HMq HE5 d0 d1
            generalize strOf ((im.drop b).take 1024) = s1 at *
            generalize strOf (List.replicate 1024 0) = s2 at *
            generalize List.replicate 1024 0 = Z at *
            cases q
            · have HNo := Lib.hid (fun W (hf : Fr [] w5 W) => HN.out W (F04.out.trans hf) (HSN.out (by rw [HQ.out]; simp)))
              clear HSN HSY HQ
              go_wp2_with fail
              refine wp_region_held_drew (S := fun W => (convert 24 9 (.slice (some ⟨g1, o1 + b, none⟩) 1024 (c - b))).run Tryz.prog W = .ok (.string s1) W) (by kernel_rfl) (hY) (fun yH => ?_)
              refine tkY 0 yH (h := ?_)
              refine tkY 1 yH (h := ?_)
              refine tkY 2 yH (h := ?_)
              refine tkY 3 yH (h := ?_)
              refine tkY 4 yH (h := ?_)
              refine tkY 5 yH (h := ?_)
              refine tkY 6 yH (h := ?_)
              refine tkY 7 yH (h := ?_)
              refine tkY 8 yH (h := ?_)
              refine tkY 9 yH (h := ?_)
              refine tkY 10 yH (h := ?_)
              refine tkY 11 yH (h := ?_)
              refine tkY 12 yH (h := ?_)
              refine wpAnyH_ready (rs := [13]) (by kernel_rfl) (by simp) ?_
              refine AllReadyH.cons (o := ?ooc13) ?hic13 (fun K hK => ?hcc13) AllReadyH.nil
              case hic13 => (simp only [List.getElem?_toArray, List.getElem?_cons_zero, List.getElem?_cons_succ]; rfl)
              go_simp
              refine hK.out _ _ (HV1.out _ ((Fr.refl _ _).drew.alloc _)) (fun yH => ?_)
              clear hK K
              try simp only [Act.put, List.setIfInBounds_toArray, List.set_cons_zero, List.set_cons_succ]
              clear yH
              refine wpAnyH_strong2 (S' := fun W => (convert 24 9 (.slice (some ⟨w5.heap.size, 0, none⟩) 1024 1024)).run Tryz.prog W = .ok (.string s2) W ∧ (convert 24 9 (.slice (some ⟨g1, o1 + b, none⟩) 1024 (c - b))).run Tryz.prog W = .ok (.string s1) W) (fun _ h => h.2) _ _ _ _ ?_
              have yH : (fun W => (convert 24 9 (.slice (some ⟨w5.heap.size, 0, none⟩) 1024 1024)).run Tryz.prog W = .ok (.string s2) W ∧ (convert 24 9 (.slice (some ⟨g1, o1 + b, none⟩) 1024 (c - b))).run Tryz.prog W = .ok (.string s1) W) (w5.drew.alloc (.cells (bytes Z) 5)) := ⟨HV2.out _ _ (Blk.new _ _ _), HV1.out _ ((Fr.refl _ _).drew.alloc _)⟩
              refine tkY 14 yH (h := ?_)
              refine tkY 15 yH (h := ?_)
              refine tkY 16 yH (h := ?_)
              refine wpAnyH_done (by kernel_rfl) ?_ _
              go_wp2_with fail
              exact HNo.out _ ((Fr.refl _ _).drew.alloc _)
            · have HSS := Lib.hid (HSY.out [(b, 1024, 7)] (by rw [HQ.out]; simp))
              have F6 := Lib.hid (F4.out.trans ((Fr.refl _ _).alloc (.cells (bytes Z) 5)).drew)
              have HO6 := Lib.hid (show OwnR (w5.alloc (.cells (bytes Z) 5)).drew w0.heap.size u rs from own_keep HO4.out ((Fr.refl _ _).alloc _).drew)
              clear HSN HSY HQ
              go_wp2_with fail
              refine wp_region_held_drew (S := fun W => (convert 24 9 (.slice (some ⟨g1, o1 + b, none⟩) 1024 (c - b))).run Tryz.prog W = .ok (.string s1) W) (by kernel_rfl) (hY) (fun yH => ?_)
              refine tkY 0 yH (h := ?_)
              refine tkY 1 yH (h := ?_)
              refine tkY 2 yH (h := ?_)
              refine tkY 3 yH (h := ?_)
              refine tkY 4 yH (h := ?_)
              refine tkY 5 yH (h := ?_)
              refine tkY 6 yH (h := ?_)
              refine tkY 7 yH (h := ?_)
              refine tkY 8 yH (h := ?_)
              refine tkY 9 yH (h := ?_)
              refine tkY 10 yH (h := ?_)
              refine tkY 11 yH (h := ?_)
              refine tkY 12 yH (h := ?_)
              refine wpAnyH_ready (rs := [13]) (by kernel_rfl) (by simp) ?_
              refine AllReadyH.cons (o := ?ood13) ?hid13 (fun K hK => ?hcd13) AllReadyH.nil
              case hid13 => (simp only [List.getElem?_toArray, List.getElem?_cons_zero, List.getElem?_cons_succ]; rfl)
              go_simp
              refine hK.out _ _ (HV1.out _ ((Fr.refl _ _).drew.alloc _)) (fun yH => ?_)
              clear hK K
              try simp only [Act.put, List.setIfInBounds_toArray, List.set_cons_zero, List.set_cons_succ]
              clear yH
              refine wpAnyH_strong2 (S' := fun W => (convert 24 9 (.slice (some ⟨w5.heap.size, 0, none⟩) 1024 1024)).run Tryz.prog W = .ok (.string s2) W ∧ (convert 24 9 (.slice (some ⟨g1, o1 + b, none⟩) 1024 (c - b))).run Tryz.prog W = .ok (.string s1) W) (fun _ h => h.2) _ _ _ _ ?_
              have yH : (fun W => (convert 24 9 (.slice (some ⟨w5.heap.size, 0, none⟩) 1024 1024)).run Tryz.prog W = .ok (.string s2) W ∧ (convert 24 9 (.slice (some ⟨g1, o1 + b, none⟩) 1024 (c - b))).run Tryz.prog W = .ok (.string s1) W) (w5.drew.alloc (.cells (bytes Z) 5)) := ⟨HV2.out _ _ (Blk.new _ _ _), HV1.out _ ((Fr.refl _ _).drew.alloc _)⟩
              refine tkY 14 yH (h := ?_)
              refine tkY 15 yH (h := ?_)
              refine tkY 16 yH (h := ?_)
              refine wpAnyH_done (by kernel_rfl) ?_ _
              have hlR : rs.length ≤ 1048576 := by have := HRL.out; omega
              have hbs := F6.out.size
              obtain ⟨W6, hW6⟩ : ∃ W6, (w5.alloc (.cells (bytes Z) 5)).drew = W6 := ⟨_, rfl⟩
              rw [hW6] at F6 HO6 hbs ⊢
              clear yH hY hW6
              go_wp2_with (at_builtin; go_must (refine wpList_appR rfl _ _ rfl rfl w0.heap.size _ rs rfl (World.ownsRow.alloc HO6.out _) _ (b, 1024, 7) rfl (Blk.new _ _ _) hlR (by rw [World.size_alloc]; omega) ?_); intro v1 W1 hO1 hg1 hob1)
              have HO7 := Lib.hid hO1
              have F7 := Lib.hid (show Fr [] w0 W1 from own_fr (World.ownsRow.alloc HO6.out _) hg1 (F6.out.alloc _) (Nat.le_refl _))
              clear hO1 hg1 hob1
              go_wp2_with fail
              go_roundw
              case rel => exact ⟨j + 1, v1, _, rfl, by omega, by go_num, F7.out, HSS.out, HO7.out⟩
              case measure => simp [intOf]; omega
          · have b4 : ((l1 : Int) != 0) = false := by simp; omega
            have b5 : ((f1 : Int) != 0) = true := by simp; omega
            have HNo := Lib.hid (fun W (hf : Fr [] w5 W) => HN.out W (F04.out.trans hf) (HSN.out (by rw [HM.out, if_neg (fun h => hf0 h.2.1)])))
            clear HM HSN HSY d0 d1 hl0 hf0
            go_wp2_with fail
            refine wp_region_held_drew (S := fun _ => True) (by kernel_rfl) (trivial) (fun yH => ?_)
            refine tkY 0 yH (h := ?_)
            refine tkY 1 yH (h := ?_)
            refine tkY 2 yH (h := ?_)
            refine tkY 3 yH (h := ?_)
            refine tkY 4 yH (h := ?_)
            refine tkY 5 yH (h := ?_)
            refine tkY 6 yH (h := ?_)
            refine tkN 7 yH (h := ?_)
            refine tkN 8 yH (h := ?_)
            refine tkN 9 yH (h := ?_)
            refine tkN 10 yH (h := ?_)
            refine tkN 11 yH (h := ?_)
            refine tkN 12 yH (h := ?_)
            refine tkN 13 yH (h := ?_)
            refine tkN 14 yH (h := ?_)
            refine tkN 15 yH (h := ?_)
            refine tkY 16 yH (h := ?_)
            refine wpAnyH_done (by kernel_rfl) ?_ _
            go_wp2_with fail
            exact HNo.out _ (Fr.refl _ _).drew
        · have b4 : ((l1 : Int) != 0) = true := by simp; omega
          have HNo := Lib.hid (fun W (hf : Fr [] w5 W) => HN.out W (F04.out.trans hf) (HSN.out (by rw [HM.out, if_neg (fun h => hl0 h.1)])))
          clear HM HSN HSY d0 d1 hl0
          go_wp2_with fail
          refine wp_region_held_drew (S := fun _ => True) (by kernel_rfl) (trivial) (fun yH => ?_)
          refine tkY 0 yH (h := ?_)
          refine tkY 1 yH (h := ?_)
          refine tkY 2 yH (h := ?_)
          refine tkN 3 yH (h := ?_)
          refine tkN 4 yH (h := ?_)
          refine tkY 5 yH (h := ?_)
          refine tkY 6 yH (h := ?_)
          refine tkN 7 yH (h := ?_)
          refine tkN 8 yH (h := ?_)
          refine tkN 9 yH (h := ?_)
          refine tkN 10 yH (h := ?_)
          refine tkN 11 yH (h := ?_)
          refine tkN 12 yH (h := ?_)
          refine tkN 13 yH (h := ?_)
          refine tkN 14 yH (h := ?_)
          refine tkN 15 yH (h := ?_)
          refine tkY 16 yH (h := ?_)
          refine wpAnyH_done (by kernel_rfl) ?_ _
          go_wp2_with fail
          exact HNo.out _ (Fr.refl _ _).drew
      · have b3 : ((c1 : Int) == 0) = false := by rw [beq_eq_false_iff_ne]; omega
        have b3' : (c1 == 0) = false := by rw [beq_eq_false_iff_ne]; omega
        have hcc : 1 ≤ c1 ∧ c1 ≤ 9 := by omega
        have HM := Lib.hid (HMC.out h9 h0)
        have hz8 := fun W => xsize8 (w := W) (c1 : Int)
        have hk8 := fun W => xblocks8 (w := W) (c1 : Int)
        rw [cszZ_nat c1 hcc.2] at hz8
        rw [nbkZ_nat c1 hcc.2] at hk8
        have hp8 := fun W => xpad8 (w := W) c1 hcc
        obtain ⟨t1, t2, t3, t4, t5, t6, t7⟩ := csz_tab c1 hcc.1 hcc.2
        have HIX := Lib.hid (fun W (f : Nat) x (hx : x = (f : Int) - b) => xindex8 (w := W) c1 b f hcc x hx)
        have HIL := Lib.hid (fun f k (h : idxN b c1 f = some k) => idxN_lt h)
        have HIN := Lib.hid (fun x => ldTo_lt32 (l := im) (x := x) (k := 4) (by decide) (HIM.out _ F4.out).byte)
        have HBM := Lib.hid (fun sn k => (show blkM b c1 sn k = (b + csz c1 * k, csz c1, if k ∈ sn then 6 else 5) from rfl))
        have HPM := Lib.hid (show padM b c1 = if 0 < cpad c1 then [(b + 1024 - cpad c1, cpad c1, 8)] else [] from rfl)
        have hmk : ∀ W, (Instr.makeSlice 51 (.int .i64 (nbk c1 : Nat)) (.int .i64 (nbk c1 : Nat))).run Tryz.prog W = .ok (.slice (some ⟨W.heap.size, 0, none⟩) (nbk c1) (nbk c1)) (W.alloc (.cells (intsF (nbk c1) (fun _ => 0)) 3)) := fun W => run_make_F 51 3 Tryz.underlying51 info_int .i64 .i64 (nbk c1) (by omega) W
        have HM2 := Lib.hid (show nbk c1 * csz c1 ≤ 1024 by rw [Nat.mul_comm]; omega)
        have HC0 := Lib.hid (show ∀ sn, List.map (blkM b c1 sn) (List.range 0) = [] from fun _ => rfl)
        clear HM0 HMG HMC h9 h0 b2 b2'
        generalize hnn : csz c1 = n at *
        generalize hMM : nbk c1 = M at *
        generalize cpad c1 = pd at *
        clear hnn hMM
        go_wp2_with fail
        with_reducible refine (hz8 _).mono ?_
        rintro e w6 ⟨rfl, rfl⟩
        go_wp2_with fail
        with_reducible refine (hk8 _).mono ?_
        rintro e w6 ⟨rfl, rfl⟩
        clear hz8 hk8
        go_wp2_with fail
        obtain ⟨W7, hW7⟩ : ∃ W7, w6.alloc (.cells (intsF M (fun _ => 0)) 3) = W7 := ⟨_, rfl⟩
        have F7 := Lib.hid (show Fr [] w0 W7 from hW7 ▸ F4.out.alloc _)
        have S7 := Lib.hid (show Blk W7 w6.heap.size 3 (intsF M (seenF [])) from hW7 ▸ Blk.new w6 _ _)
        have O7 := Lib.hid (show OwnR W7 w0.heap.size u rs from hW7 ▸ World.ownsRow.alloc HO4.out _)
        have hgs := F4.out.size
        rw [hW7]
        clear hW7 hmk
        generalize w6.heap.size = gs at *
        clear HO4 d0 d1
        go_loopw [12, 16] (fun f k W => ∃ (fv : Nat) (sn : List Nat), f = .int .i64 fv ∧ k = .int .i64 sn.length ∧ Fr [] w0 W ∧ OwnR W w0.heap.size u rs ∧ Blk W gs 3 (intsF M (seenF sn)) ∧ sn.Nodup ∧ (∀ x ∈ sn, x < M) ∧ chaseL im b c1 (M + 1) f1 [] = chaseL im b c1 (M + 1 - sn.length) fv sn ∧ fv < 4294967296) (fun _ k _ => M - (intOf k).toNat)
        case atStart => exact ⟨f1, [], rfl, rfl, F7.out, O7.out, S7.out, List.nodup_nil, fun _ h => (List.not_mem_nil h).elim, rfl, hf1⟩
        case round =>
          clear F7 S7 O7
          obtain ⟨fv, sn, rfl, rfl, hFk, hOk, hSk, hnd, hsl, hch, hfv⟩ := hrel
          have HSk := Lib.hid hSk
          have HFk := Lib.hid hFk
          have HOk := Lib.hid hOk
          have HND := Lib.hid (And.intro hnd hsl)
          have hlM := nodup_le hnd hsl
          by_cases hf0 : fv = 0
          · subst hf0
            rw [show M + 1 - sn.length = (M - sn.length) + 1 by omega, chase_fin] at hch
            have HM := Lib.hid (show slabM im h b = if sn.length = M ∨ l1 ≠ M - sn.length then none else some ((List.range M).map (blkM b c1 sn) ++ padM b c1) from by rw [HM.out, hch])
            clear hnd hsl hSk hFk hOk hch hfv HIX HIL HIN
            by_cases hA : sn.length = M
            · have b7 : ((sn.length : Int) == M) = true := by simp; omega
              have HNo := Lib.hid (HN.out _ (F0.out.trans HFk.out) (HSN.out (by rw [HM.out, if_pos (.inl hA)])))
              clear HM HSN HSY hA
              go_wp2_with fail
              exact HNo.out
            have b7 : ((sn.length : Int) == M) = false := by rw [beq_eq_false_iff_ne]; omega
            have wm : IntKind.i64.wrap ((M : Int) - sn.length) = (M : Int) - sn.length := IntWalk.i64_in _ (by omega)
            by_cases hB : l1 ≠ M - sn.length
            · have b8 : ((l1 : Int) != (M : Int) - sn.length) = true := by rw [bne_iff_ne]; omega
              have HNo := Lib.hid (HN.out _ (F0.out.trans HFk.out) (HSN.out (by rw [HM.out, if_pos (.inr hB)])))
              clear HM HSN HSY hA hB
              go_wp2_with fail
              exact HNo.out
            have b8 : ((l1 : Int) != (M : Int) - sn.length) = false := by rw [bne_eq_false_iff_eq]; omega
            have hB : l1 = M - sn.length := by omega
            have HSS := Lib.hid (HSY.out _ (by rw [HM.out, if_neg (fun h => h.elim hA (fun h => h hB))]))
            have HL1 := Lib.hid hB
            clear HM HSN HSY hA hB
            go_wp2_with fail
            have HRB := Lib.hid (show rs.length ≤ 100000 from by have := HRL.out; omega)
            go_loopw [6, 19] (fun v i W => ∃ (k : Nat) (u' : Value), u' = v ∧ k ≤ M ∧ i = .int .i64 k ∧ Fr [] w0 W ∧ OwnR W w0.heap.size u' (rs ++ (List.range k).map (blkM b c1 sn)) ∧ Blk W gs 3 (intsF M (seenF sn))) (fun _ i _ => M - (intOf i).toNat)
            case atStart => exact ⟨0, u, rfl, Nat.zero_le _, rfl, HFk.out, by rw [List.range_zero, List.map_nil, List.append_nil]; exact HOk.out, HSk.out⟩
            case round =>
              clear HFk HOk HSk
              obtain ⟨k, u', rfl, hk, rfl, hF2, hO2, hS2⟩ := hrel
              have HF2 := Lib.hid hF2
              have HO2 := Lib.hid hO2
              have HS2 := Lib.hid hS2
              have hsz2 := hF2.size
              have k0 : (0 : Int) ≤ k := by omega
              have HLk := Lib.hid (show (rs ++ (List.range k).map (blkM b c1 sn)).length ≤ 100033 from by have := HRB.out; simp; omega)
              by_cases hkM : k < M
              · have hkM' : (k : Int) < M := by omega
                have b9 : decide ((k : Int) < M) = true := by simp; omega
                have b9' : decide (k < M) = true := by simp; omega
                have wk : IntKind.i64.wrap ((k : Int) + 1) = (k : Int) + 1 := IntWalk.i64_in _ (by omega)
                have hmul : n * k ≤ n * M := Nat.mul_le_mul_left n hk
                have hM2 := HM2.out
                rw [Nat.mul_comm] at hM2
                have hbm := HBM.out sn k
                obtain ⟨kd, hkd1, hkd2⟩ : ∃ kd : Nat, IntKind.i64.wrap (5 + seenF sn k) = (kd : Int) ∧ (if k ∈ sn then 6 else 5) = kd := by
                  unfold seenF
                  by_cases h : k ∈ sn
                  · exact ⟨6, by rw [if_pos h]; decide, by rw [if_pos h]⟩
                  · exact ⟨5, by rw [if_neg h]; decide, by rw [if_neg h]⟩
                rw [hkd2] at hbm
                have wy : IntKind.i64.wrap ((k : Int) * (n : Int)) = ((n * k : Nat) : Int) := by
                  rw [← Int.natCast_mul, Nat.mul_comm k n]
                  exact IntWalk.i64_in _ (by omega)
                obtain ⟨x, hx⟩ : ∃ x, b + n * k = x := ⟨_, rfl⟩
                have wx : IntKind.i64.wrap ((b : Int) + ((n * k : Nat) : Int)) = (x : Int) := by rw [IntWalk.i64_in _ (by omega)]; omega
                rw [hx] at hbm
                have HSU := Lib.hid (show rs ++ (List.range (k + 1)).map (blkM b c1 sn) = rs ++ (List.range k).map (blkM b c1 sn) ++ [(x, n, kd)] from by
                  rw [List.range_succ, List.map_append, List.append_assoc, List.map_singleton, hbm])
                have hck := hS2.cellF k hkM
                clear hx hmul hM2 hbm hkd2 hF2 hO2 hS2 hk hkM
                generalize n * k = y at *
                generalize seenF sn k = sv at *
                go_wp2_with (at_builtin; go_must (refine wpList_appR rfl _ _ rfl rfl w0.heap.size _ _ rfl (World.ownsRow.alloc HO2.out _) _ (x, n, kd) rfl (Blk.new _ _ _) (Nat.le_trans HLk.out (by decide)) (by rw [World.size_alloc]; omega) ?_); intro v1 W1 hO1 hg1 hob1; have HS3 := Lib.hid (own_blk (World.ownsRow.alloc HO2.out _) hg1 (HS2.out.alloc _) (by decide)))
                have HO3 := Lib.hid hO1
                have F3 := Lib.hid (show Fr [] w0 W1 from own_fr (World.ownsRow.alloc HO2.out _) hg1 (HF2.out.alloc _) (Nat.le_refl _))
                clear hO1 hg1 hob1
                go_wp2_with fail
                refine ⟨?_, ?measure⟩
                apply Exists.intro
                (repeat apply Exists.intro)
                refine ⟨?rel, rfl⟩
                case rel => exact ⟨k + 1, v1, rfl, by omega, by go_num, F3.out, by rw [HSU.out]; exact HO3.out, HS3.out⟩
                case measure => simp [intOf]; omega
              · obtain rfl : k = M := by omega
                have b9 : decide ((k : Int) < k) = false := by simp
                have b9' : decide (k < k) = false := by simp
                have hpd : pd ≤ 1024 := by omega
                have HPM' := HPM.out
                by_cases hp0 : 0 < pd
                · have b10 : decide ((0 : Int) < (pd : Int)) = true := by simp; omega
                  have b10' : decide (0 < pd) = true := by simp; omega
                  have wb : IntKind.i64.wrap ((b : Int) + 1024) = (b : Int) + 1024 := IntWalk.i64_in _ (by omega)
                  obtain ⟨x, hx⟩ : ∃ x, b + 1024 - pd = x := ⟨_, rfl⟩
                  have wx : IntKind.i64.wrap ((b : Int) + 1024 - (pd : Int)) = (x : Int) := by rw [IntWalk.i64_in _ (by omega)]; omega
                  rw [if_pos hp0, hx] at HPM'
                  have HSU := Lib.hid (show slabsM im a s (j + 1) = some (rs ++ (List.range k).map (blkM b c1 sn) ++ [(x, pd, 8)]) from by rw [HSS.out, HPM', List.append_assoc])
                  clear HPM' hx hF2 hO2 hS2 hk hkM HPM
                  go_wp2_with fail
                  with_reducible refine (hp8 _).mono ?_
                  rintro e w8 ⟨rfl, rfl⟩
                  go_wp2_with (at_builtin; go_must (refine wpList_appR rfl _ _ rfl rfl w0.heap.size _ _ rfl (World.ownsRow.alloc HO2.out _) _ (x, pd, 8) rfl (Blk.new _ _ _) (Nat.le_trans HLk.out (by decide)) (by rw [World.size_alloc]; omega) ?_); intro v1 W1 hO1 hg1 hob1)
                  have HO3 := Lib.hid hO1
                  have F3 := Lib.hid (show Fr [] w0 W1 from own_fr (World.ownsRow.alloc HO2.out _) hg1 (HF2.out.alloc _) (Nat.le_refl _))
                  clear hO1 hg1 hob1
                  go_wp2_with fail
                  go_roundw
                  case rel => exact ⟨j + 1, v1, _, rfl, by omega, by go_num, F3.out, HSU.out, HO3.out⟩
                  case measure => simp [intOf]; omega
                · have b10 : decide ((0 : Int) < (pd : Int)) = false := by simp; omega
                  have b10' : decide (0 < pd) = false := by simp; omega
                  rw [if_neg hp0] at HPM'
                  have HSU := Lib.hid (show slabsM im a s (j + 1) = some (rs ++ (List.range k).map (blkM b c1 sn)) from by rw [HSS.out, HPM', List.append_nil])
                  clear HPM' hF2 hO2 hS2 hk hkM HPM
                  go_wp2_with fail
                  with_reducible refine (hp8 _).mono ?_
                  rintro e w8 ⟨rfl, rfl⟩
                  go_wp2_with fail
                  go_roundw
                  case rel => exact ⟨j + 1, u', _, rfl, by omega, by go_num, HF2.out, HSU.out, HO2.out⟩
                  case measure => simp [intOf]; omega
          · have b6 : ((fv : Int) != 0) = true := by simp; omega
            have wi : IntKind.i64.wrap ((fv : Int) - b) = (fv : Int) - b := IntWalk.i64_in _ (by omega)
            have hix := HIX.out wr fv _ rfl
            rw [show M + 1 - sn.length = (M - sn.length) + 1 by omega] at hch
            cases hi : idxN b c1 fv with
            | none =>
              rw [chase_none hf0 hi] at hch
              rw [hi] at hix
              simp only at hix
              have HNo := Lib.hid (HN.out _ (F0.out.trans hFk) (HSN.out (by rw [HM.out, hch])))
              clear HM HSN HSY hch hnd hsl hSk hFk hOk HIX HIL HIN
              go_wp2_with fail
              with_reducible refine hix.mono ?_
              rintro e w8 ⟨rfl, rfl⟩
              go_wp2_with fail
              exact HNo.out
            | some k =>
              obtain ⟨hkM, hfk⟩ := HIL.out fv k hi
              have HFK := Lib.hid hfk
              clear hfk
              rw [hi] at hix
              simp only at hix
              have hkM' : (k : Int) < M := by omega
              have k0 : (0 : Int) ≤ k := by omega
              have hck := hSk.cellF k hkM
              by_cases hk : k ∈ sn
              · rw [chase_twice hf0 hi hk] at hch
                rw [show seenF sn k = 1 from if_pos hk] at hck
                have HNo := Lib.hid (HN.out _ (F0.out.trans hFk) (HSN.out (by rw [HM.out, hch])))
                clear HM HSN HSY hch hnd hsl hSk hFk hOk HIX HIL HIN
                go_wp2_with fail
                with_reducible refine hix.mono ?_
                rintro e w8 ⟨rfl, rfl⟩
                go_wp2_with fail
                exact HNo.out
              · rw [chase_step hf0 hi hk] at hch
                rw [show seenF sn k = 0 from if_neg hk] at hck
                have hzk := hSk.frozen k
                have hkn := nodup_le (List.nodup_cons.2 ⟨hk, hnd⟩) (M := M) (fun x hx => (List.mem_cons.1 hx).elim (fun e => e ▸ hkM) (hsl x))
                simp only [List.length_cons] at hkn
                have hkn' : sn.length + 1 ≤ M := hkn
                clear hkn
                have wf : IntKind.i64.wrap ((fv : Int) + 4) = (fv : Int) + 4 := IntWalk.i64_in _ (by omega)
                have wk : IntKind.i64.wrap ((sn.length : Int) + 1) = (sn.length : Int) + 1 := IntWalk.i64_in _ (by omega)
                have hmul : n * k + n ≤ n * M := by rw [← Nat.mul_succ]; exact Nat.mul_le_mul_left n hkM
                have F8 := Lib.hid (show Fr [] w0 (wr.setCell ⟨gs, k, none⟩ (.int .i64 1)) from hFk.setCell (.inr hgs) _)
                have S8 := Lib.hid (hSk.setF (seenF (k :: sn)) k 1 (fun j _ => seenF_cons k sn j))
                have O8 := Lib.hid (show OwnR (wr.setCell ⟨gs, k, none⟩ (.int .i64 1)) w0.heap.size u rs from own_keepS hOk ((Fr.refl [gs] wr).setCell (.inl (by simp)) _) hSk (by decide))
                have hnx := (show Calls Tryz.prog 112 #[.slice (some ⟨g1, o1, none⟩) im.length c, .int .i64 ((fv : Int) + 4), .int .i64 4] (wr.setCell ⟨gs, k, none⟩ (.int .i64 1)) _ from HNM.out _ F8.out (fv + 4) 4 (by omega) (by have h1 := HM2.out; have h2 := HFK.out; rw [Nat.mul_comm] at h1; omega))
                have HCH := Lib.hid hch
                have hv' := HIN.out (fv + 4)
                clear hch hnd hsl hSk hFk hOk HIX HIL HIN HM HSN HSY
                go_wp2_with fail
                with_reducible refine hix.mono ?_
                rintro e w8 ⟨rfl, rfl⟩
                go_wp2_with fail
                with_reducible refine hnx.mono ?_
                rintro e w8 ⟨rfl, rfl⟩
                go_wp2_with fail
                go_roundw
                case rel => exact ⟨_, k :: sn, rfl, by rw [List.length_cons]; go_num, F8.out, O8.out, S8.out, List.nodup_cons.2 ⟨hk, HND.out.1⟩, fun x hx => (List.mem_cons.1 hx).elim (fun e => e ▸ hkM) (HND.out.2 x), by rw [HCH.out, List.length_cons]; congr 1; omega, hv'⟩
                case measure => simp [intOf]; omega
    · obtain rfl : j = a := by omega
      have b1 : decide ((j : Int) < j) = false := by simp
      have b1' : decide (j < j) = false := by simp
      obtain ⟨ax, cx, rfl, hzx, hax⟩ := (OwnZ.of HO.out).zb (by rw [List.length_map]; have := HRL.out; omega)
      have hjn := xjoin16 wr ax cx _ hzx
      have HMJ := Lib.hid (show mapM16 im j s = some (joinZ (rs.map zOf)) from by unfold mapM16; rw [HRS.out])
      have HJL := Lib.hid (show (joinZ (rs.map zOf)).length ≤ 1048576 from by
        have h1 := jfold_len (rs.map zOf) []
        have h2 := HRL.out
        rw [List.length_map] at h1
        unfold joinZ
        simp only [List.length_nil] at h1
        omega)
      have hsz := HF.out.size
      clear hzx hax HNN HN HSL HRL HO
      generalize (rs.map zOf).length = rl at *
      go_wp2_with fail
      with_reducible refine hjn.mono ?_
      rintro e w3 ⟨v3, rfl, hO3, f3⟩
      go_wp2_with fail
      rw [HP.out]
      unfold MapX
      rw [HMJ.out]
      exact ⟨F0.out.trans (HF.out.trans f3), v3, rfl, ownZ_base (by have := F0.out.size; omega) hO3, HJL.out⟩
end Go.Proofs.YtgoogihfggndpaaGreatDoor
