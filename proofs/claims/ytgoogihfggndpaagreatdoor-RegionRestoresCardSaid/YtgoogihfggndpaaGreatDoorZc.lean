/- ref12: New. -/
import Derived.Test.YtgoogihfggndpaaGreatDoorZb
import Derived.Test.YtgoogihfggndpaaGreatDoorKT
namespace Go.Proofs.YtgoogihfggndpaaGreatDoor
set_option linter.unusedVariables false
set_option linter.unusedSimpArgs false
open Go.RowKit

/-- The bytes of a new memory of the document. -/
def l12 (a s : Nat) : List Nat := putL (putL (putL (List.replicate (lsize a s) 0) 8 4 1129270338) 12 4 a) 16 4 s
def N12 (w : World) (a s : Nat) (e : Ending) (w' : World) : Prop := ∃ m p pw bw B, e = .returned (.pointer (some ⟨m, 0, none⟩)) ∧ Blk w' m 42 #[.int .i64 a, .int .i64 s, .pointer (some ⟨p, 0, none⟩), .pointer (some ⟨pw, 0, none⟩)] ∧
  B ≤ w'.heap.size ∧ IsXR w' B p (l12 a s) ∧ IsX w' pw bw (exp4 (newK a s)) 0 0 ∧ m ≠ bw ∧ m ≠ pw ∧ m ≠ p ∧ pw ≠ p ∧ bw ≠ p ∧ (∀ k ∈ [m, p, pw, bw], w.heap.size ≤ k) ∧ Fr [] w w'
theorem m12_no {w : World} (a s : Int) (hc : ¬ CfZ a s) : Calls Tryz.prog 12 #[.agg #[.int .i64 a, .int .i64 s]] w fun e w' => e = .returned (.pointer none) ∧ Fr [] w w' := by
  have hr := fun W => xright9_no (w := W) a s hc
  have F0 := Lib.hid ((Fr.refl [] w).alloc (.cells #[.int .i64 a, .int .i64 s] 23))
  clear hc
  go_enter Tryz.func12, Tryz.ntmps12
  go_wp2_with fail
  with_reducible refine (hr _).mono ?_
  rintro e w1 ⟨rfl, f1⟩
  go_wp2_with fail
  go_ret
  exact ⟨rfl, F0.out.trans f1⟩
set_option maxRecDepth 100000 in
set_option maxHeartbeats 4000000 in
theorem m12_new {w : World} (a s : Nat) (h : Cfg a s) : Calls Tryz.prog 12 #[.agg #[.int .i64 a, .int .i64 s]] w (N12 w a s) := by
  have hr := fun W => xright9 (w := W) a s h
  have hz := fun W => xsize12 (w := W) a s h
  have hrn := fun W => xruns9 (w := W) a s h
  unfold RunsP at hrn
  have hle := lsize_le a s h
  have hl4 := lsize_4 a s
  have hcs := cfg_sizes h
  have ha := h.a2
  have hs := h.s3
  have HA := Lib.hid (fun W => xnew10_yes W (lsize a s) (by unfold amayB; simp; omega))
  have HW := Lib.hid (fun W => xnew_yes W (lsize a s) (by unfold mayB; simp; omega))
  have HRok := Lib.hid (fun r (hr : r ∈ rruns a s) => lruns_ok a s h r (by rw [lruns_eq a s h]; exact hr))
  have HK0 := Lib.hid (show List.replicate (lsize a s) 0 = exp4 ((List.take 0 (rruns a s)).foldl markR (List.replicate (lsize a s / 4) 0)) from by
    rw [List.take_zero, List.foldl_nil, exp4_zero, show 4 * (lsize a s / 4) = lsize a s by omega])
  have HKl := Lib.hid (fun k => show 4 * ((List.take k (rruns a s)).foldl markR (List.replicate (lsize a s / 4) 0)).length = lsize a s from by
    rw [marks_len, List.length_replicate]
    omega)
  have HKn := Lib.hid (show (rruns a s).foldl markR (List.replicate (lsize a s / 4) 0) = newK a s from by
    unfold newK; rw [lruns_eq a s h])
  have HL := Lib.hid (show l12 a s = putL (putL (putL (List.replicate (lsize a s) 0) 8 4 1129270338) 12 4 a) 16 4 s from rfl)
  have F0 := Lib.hid ((Fr.refl [] w).alloc (.cells #[.int .i64 a, .int .i64 s] 23))
  have B0 := Lib.hid (Blk.new w 23 #[.int .i64 a, .int .i64 s])
  obtain ⟨P, hP⟩ : ∃ P, N12 w a s = P := ⟨_, rfl⟩
  rw [hP]
  have HP := Lib.hid hP.symm
  have wa : IntKind.u64.wrap (a : Int) = (a : Int) := by show (a : Int) % 18446744073709551616 = a; omega
  have wsl : IntKind.u64.wrap (s : Int) = (s : Int) := by show (s : Int) % 18446744073709551616 = s; omega
  have h64a : a < 18446744073709551616 := by omega
  have h64s : s < 18446744073709551616 := by omega
  clear hP h hcs
  generalize lsize a s = n at *
  go_enter Tryz.func12, Tryz.ntmps12
  go_wp2_with fail
  with_reducible refine (hr _).mono ?_
  rintro e w1 ⟨rfl, f1⟩
  have B1 := Lib.hid (B0.out.fr f1 (by simp))
  have F1 := Lib.hid (F0.out.trans f1)
  have d0 := B1.out.cell 0
  have d1 := B1.out.cell 1
  simp at d0 d1
  clear f1
  go_wp2_with fail
  with_reducible refine (hz _).mono ?_
  rintro e w2 ⟨rfl, f2⟩
  have B2 := Lib.hid (B1.out.fr f2 (by simp))
  have F2 := Lib.hid (F1.out.trans f2)
  have hY := And.intro (B2.out.drew.cell 0) (B2.out.drew.cell 1)
  clear f2 d0 d1
  go_wp2_with fail
  refine wp_region_held_drew (S := fun W => W.cell? ⟨w.heap.size, 0, none⟩ = some (.int .i64 a) ∧ W.cell? ⟨w.heap.size, 1, none⟩ = some (.int .i64 s)) (by kernel_rfl) (hY) (fun yH => ?_)
  refine tkY 0 yH (h := ?_)
  refine tkY 1 yH (h := ?_)
  refine tkY 3 yH (h := ?_)
  refine wpAnyH_ready (rs := [2]) (by kernel_rfl) (by simp) ?_
  refine AllReadyH.cons (o := ?ooa3) ?hia3 (fun K hK => ?hca3) AllReadyH.nil
  case hia3 => (simp only [List.getElem?_toArray, List.getElem?_cons_zero, List.getElem?_cons_succ]; rfl)
  go_simp
  with_reducible refine (HA.out _).mono ?_
  rintro e w3 ⟨p, rfl, hx3, f3⟩
  have F3 := Lib.hid (F2.out.drew.trans f3)
  have B3 := Lib.hid (B2.out.drew.fr f3 (by simp))
  have X3 := Lib.hid hx3
  have hY := And.intro (B3.out.cell 0) (B3.out.cell 1)
  clear f3 hx3
  go_wp2_with fail
  refine hK.out _ _ (hY) (fun yH => ?_)
  clear hK K
  try simp only [Act.put, List.setIfInBounds_toArray, List.set_cons_zero, List.set_cons_succ]
  refine wpAnyH_ready (rs := [4]) (by kernel_rfl) (by simp) ?_
  refine AllReadyH.cons (o := ?ooa4) ?hia4 (fun K hK => ?hca4) AllReadyH.nil
  case hia4 => (simp only [List.getElem?_toArray, List.getElem?_cons_zero, List.getElem?_cons_succ]; rfl)
  go_simp
  with_reducible refine (HW.out _).mono ?_
  rintro e w4 ⟨pw, bw, rfl, hw4, hpw, hbw, f4⟩
  have F4 := Lib.hid (F3.out.trans f4)
  have B4 := Lib.hid (B3.out.fr f4 (by simp))
  have X4 := Lib.hid (X3.out.fr0 f4)
  have W4 := Lib.hid hw4
  have A4 := Lib.hid ((XA.of (bad := [bw, pw, w4.heap.size]) X3.out (fun k hk => by have := f4.size; simp at hk; omega)).fr f4 (by simp))
  have hs4 := f4.size
  have hY := And.intro (B4.out.cell 0) (B4.out.cell 1)
  clear f4 hw4
  go_wp2_with fail
  refine hK.out _ _ (hY) (fun yH => ?_)
  clear hK K
  try simp only [Act.put, List.setIfInBounds_toArray, List.set_cons_zero, List.set_cons_succ]
  refine tkY 5 yH (h := ?_)
  refine wpAnyH_ready (rs := [6]) (by kernel_rfl) (by simp) ?_
  refine AllReadyH.cons (o := ?ooa6) ?hia6 (fun K hK => ?hca6) AllReadyH.nil
  case hia6 => (simp only [List.getElem?_toArray, List.getElem?_cons_zero, List.getElem?_cons_succ]; rfl)
  go_simp
  refine hK.out _ _ (And.intro ((B4.out.alloc _).cell 0) ((B4.out.alloc _).cell 1)) (fun yH => ?_)
  clear hK K
  try simp only [Act.put, List.setIfInBounds_toArray, List.set_cons_zero, List.set_cons_succ]
  refine tkY 7 yH (h := ?_)
  refine wpAnyH_done (by kernel_rfl) ?_ _
  obtain ⟨m, hm⟩ : ∃ m, w4.heap.size = m := ⟨_, rfl⟩
  have hsz := F2.out.size
  have B5 := Lib.hid (B4.out.alloc (.cells #[.int .i64 a, .int .i64 s, .pointer (some ⟨p, 0, none⟩), .pointer (some ⟨pw, 0, none⟩)] 42))
  have F5 := Lib.hid (F4.out.alloc (.cells #[.int .i64 a, .int .i64 s, .pointer (some ⟨p, 0, none⟩), .pointer (some ⟨pw, 0, none⟩)] 42))
  have M5 := Lib.hid (Blk.new w4 42 #[.int .i64 a, .int .i64 s, .pointer (some ⟨p, 0, none⟩), .pointer (some ⟨pw, 0, none⟩)])
  have A5 := Lib.hid (A4.out.fr ((Fr.refl [] w4).alloc (.cells #[.int .i64 a, .int .i64 s, .pointer (some ⟨p, 0, none⟩), .pointer (some ⟨pw, 0, none⟩)] 42)) (by simp))
  have W5 := Lib.hid (W4.out.fr ((Fr.refl [] w4).alloc (.cells #[.int .i64 a, .int .i64 s, .pointer (some ⟨p, 0, none⟩), .pointer (some ⟨pw, 0, none⟩)] 42)) (by simp) (by simp))
  have hp3 := X3.out.lt
  have hp2 := X3.out.1
  have hwl := B0.out.lt
  have hbl := W4.out.row.lt
  have hpl := W4.out.st.lt
  have hws := B2.out.lt
  simp only [World.size_drew] at hp2
  have hMw := Lib.hid (show w4.heap.size ≠ bw ∧ w4.heap.size ≠ pw ∧ w4.heap.size ≠ p ∧ pw ≠ p ∧ bw ≠ p ∧ w.heap.size ≠ p ∧ w.heap.size ≠ bw ∧ ∀ k ∈ [w4.heap.size, p, pw, bw], w.heap.size ≤ k from ⟨by omega, by omega, by omega, by omega, by omega, by omega, by omega, fun k hk => by simp at hk; omega⟩)
  clear hp3 hp2 hwl hbl hpl hws hsz hs4 hpw hbw B4 B3 B2 B1 X3 X4 A4 W4 F4 F3 F2 F1
  have d0 := B5.out.cell 0
  have d1 := B5.out.cell 1
  simp only [List.getElem?_toArray, List.getElem?_cons_zero, List.getElem?_cons_succ] at d0 d1
  go_wp2_with fail
  with_reducible refine (hrn _).mono ?_
  rintro e w6 ⟨v, rfl, hO, f6⟩
  have hrl : (rruns a s).length ≤ 1048576 := by
    have : (rruns a s).length ≤ 6 := by unfold rruns rrun5 rrun4 rrun3; split <;> simp
    omega
  have hO' := OwnZ.of hO
  obtain ⟨ax, cx, rfl, hzx, hax⟩ := hO'.zb (by rw [List.length_map]; exact hrl)
  rw [List.length_map]
  have hbw6 := Lib.hid W5.out.row.lt
  have HGb := Lib.hid (fun g o (e : ax = some ⟨g, o, none⟩) (h0 : 0 < (rruns a s).length) => (show g ∉ [bw] from fun hm => by
    have h1 := hax g o e (by rw [List.length_map]; exact h0)
    have h2 := hbw6.out
    simp only [List.mem_singleton] at hm
    omega))
  have HZ := Lib.hid (fun W (hf : Fr [bw] w6 W) (h0 : 0 < (rruns a s).length) => hzx.fr hf (fun g o e => HGb.out g o e h0))
  have HRl := Lib.hid (show ((rruns a s).map zOf).length = (rruns a s).length from List.length_map ..)
  have B6 := Lib.hid (B5.out.fr f6 (by simp))
  have M6 := Lib.hid (M5.out.fr f6 (by simp))
  have A6 := Lib.hid (A5.out.fr f6 (by simp))
  have W6 := Lib.hid (W5.out.fr f6 (by simp) (by simp))
  have F6 := Lib.hid (F5.out.trans f6)
  clear hO hO' hzx hax f6 hrn hr hz d0 d1 hm m
  generalize rruns a s = R at *
  generalize hN : R.length = N at *
  have HN := Lib.hid hN
  clear hN
  go_wp2_with fail
  go_loopw [6] (fun v W => ∃ k : Nat, k ≤ N ∧ v = .int .i64 k ∧ IsX W pw bw (exp4 ((R.take k).foldl markR (List.replicate (n / 4) 0))) 0 0 ∧ Fr [bw] w6 W) (fun v _ => N - (intOf v).toNat)
  case atStart => exact ⟨0, by omega, rfl, by rw [← HK0.out]; exact W6.out, Fr.refl _ _⟩
  case round =>
    obtain ⟨k, hk, rfl, hIk, hFk⟩ := hrel
    have HIk := Lib.hid hIk
    have HFk := Lib.hid hFk
    by_cases hlt : k < N
    · obtain ⟨r, hr⟩ : ∃ r, R[k]? = some r := ⟨_, List.getElem?_eq_getElem (by rw [HN.out]; exact hlt)⟩
      obtain ⟨g, o, rfl, hg, hcc⟩ := (HZ.out _ hFk (by omega)).row (by rw [HRl.out]; omega)
      have hgb := HGb.out g o rfl (by omega)
      have hcz := hcc k (zOf r) (by rw [List.getElem?_map, hr]; rfl)
      have hok := HRok.out r (List.mem_of_getElem? hr)
      have HTk := Lib.hid (show (R.take (k + 1)).foldl markR (List.replicate (n / 4) 0) = markR ((R.take k).foldl markR (List.replicate (n / 4) 0)) r from by
        rw [List.take_add_one, hr, Option.toList_some, List.foldl_append]; rfl)
      have HMk := Lib.hid (fun V (hV : Fr [] wr V) => xmarkR (HIk.out.fr hV (by simp) (by simp)) r (by rw [HKl.out]; exact hok))
      obtain ⟨x, m, j⟩ := r
      simp only [zOf] at hcz
      have HC := Lib.hid (fun V (hV : Fr [bw] w6 V) (hE : V.cell? ⟨g, o + k * 3, none⟩ = some (.int .i64 x) ∧ V.cell? ⟨g, o + k * 3 + 1, none⟩ = some (.int .i64 m) ∧ V.cell? ⟨g, o + k * 3 + 2, none⟩ = some (.int .i64 j)) => And.intro ((M6.out.fr hV (by simp; exact hMw.out.1)).cell 3) hE)
      have HCz := Lib.hid (fun V (hV : Fr [bw] wr V) => And.intro ((hV.cell (p := ⟨g, o + k * 3, none⟩) hg hgb).trans hcz.1) (And.intro ((hV.cell (p := ⟨g, o + k * 3 + 1, none⟩) hg hgb).trans hcz.2.1) ((hV.cell (p := ⟨g, o + k * 3 + 2, none⟩) hg hgb).trans hcz.2.2)))
      have hY := HC.out wr.drew hFk.drew (HCz.out _ (Fr.refl _ _).drew)
      simp only [List.getElem?_toArray, List.getElem?_cons_zero, List.getElem?_cons_succ] at hY
      have b0 : decide ((k : Int) < N) = true := by simp; omega
      have b0' : decide (k < N) = true := by simp; omega
      have wk : IntKind.i64.wrap ((k : Int) + 1) = (k : Int) + 1 := IntWalk.i64_in _ (by omega)
      have i0 : (0 : Int) ≤ k := by omega
      have i1 : (k : Int) < N := by omega
      clear hcc hr hok hIk hFk hcz
      go_wp2_with fail
      refine wp_region_held_drew (S := fun W => W.cell? ⟨w4.heap.size, 3, none⟩ = some (.pointer (some ⟨pw, 0, none⟩)) ∧ W.cell? ⟨g, o + k * 3, none⟩ = some (.int .i64 x) ∧ W.cell? ⟨g, o + k * 3 + 1, none⟩ = some (.int .i64 m) ∧ W.cell? ⟨g, o + k * 3 + 2, none⟩ = some (.int .i64 j)) (by kernel_rfl) (hY) (fun yH => ?_)
      refine tkY 0 yH (h := ?_)
      refine tkY 1 yH (h := ?_)
      refine tkY 2 yH (h := ?_)
      refine tkY 3 yH (h := ?_)
      refine tkY 4 yH (h := ?_)
      refine tkY 5 yH (h := ?_)
      refine tkY 6 yH (h := ?_)
      refine tkY 7 yH (h := ?_)
      refine tkY 8 yH (h := ?_)
      refine tkY 9 yH (h := ?_)
      refine tkY 10 yH (h := ?_)
      refine tkY 11 yH (h := ?_)
      refine tkY 12 yH (h := ?_)
      refine tkY 13 yH (h := ?_)
      refine tkY 14 yH (h := ?_)
      refine tkY 15 yH (h := ?_)
      refine tkY 16 yH (h := ?_)
      refine tkY 17 yH (h := ?_)
      refine tkY 18 yH (h := ?_)
      refine wpAnyH_ready (rs := [19]) (by kernel_rfl) (by simp) ?_
      refine AllReadyH.cons (o := ?oob19) ?hib19 (fun K hK => ?hcb19) AllReadyH.nil
      case hib19 => (simp only [List.getElem?_toArray, List.getElem?_cons_zero, List.getElem?_cons_succ]; rfl)
      go_simp
      with_reducible refine (HMk.out _ (Fr.refl _ _).drew).mono ?_
      rintro e w7 ⟨rfl, h7, f7⟩
      have F7 := Lib.hid ((HFk.out.drew).trans f7)
      have H7 := Lib.hid h7
      have hY := HC.out w7 F7.out (HCz.out _ ((Fr.refl _ _).drew.trans f7))
      simp only [List.getElem?_toArray, List.getElem?_cons_zero, List.getElem?_cons_succ] at hY
      clear h7 f7
      go_wp2_with fail
      refine hK.out _ _ (hY) (fun yH => ?_)
      clear hK K
      try simp only [Act.put, List.setIfInBounds_toArray, List.set_cons_zero, List.set_cons_succ]
      refine wpAnyH_done (by kernel_rfl) ?_ _
      go_wp2_with fail
      go_roundw
      case rel => exact ⟨k + 1, by omega, by go_num, by rw [HTk.out]; exact H7.out, F7.out⟩
      case measure => simp [intOf]; omega
    · obtain rfl : k = N := by omega
      have b0 : decide ((k : Int) < k) = false := by simp
      have b0' : decide (k < k) = false := by simp
      have HIn := Lib.hid (show IsX wr pw bw (exp4 (newK a s)) 0 0 from by
        have h1 := HIk.out
        rw [show R.take k = R from List.take_of_length_le (by rw [HN.out]; exact Nat.le_refl _), HKn.out] at h1
        exact h1)
      have Mr := Lib.hid (M6.out.fr hFk (by simp; exact hMw.out.1))
      have Br := Lib.hid (B6.out.fr hFk (by simp; exact hMw.out.2.2.2.2.2.2.1))
      have Fr6 := Lib.hid (F6.out.step hFk (fun x hx => .inr (hMw.out.2.2.2.2.2.2.2 x (by simp at hx; subst hx; simp))))
      obtain ⟨B, hB, hX⟩ := (A6.out.fr hFk (by simp)).toR
      have d2 := Mr.out.cell 2
      simp only [List.getElem?_toArray, List.getElem?_cons_zero, List.getElem?_cons_succ] at d2
      have hp1 := xput10 wr B p _ hX hB 8 4 1129270338 (by omega)
      rw [show ((1129270338 : Nat) : Int) = 1129270338 from rfl] at hp1
      have HB := Lib.hid hB
      have DC := Lib.hid (fun V (hV : Fr [p] wr V) => And.intro ((Mr.out.fr hV (by simp; exact hMw.out.2.2.1)).cell 2) (And.intro ((Br.out.fr hV (by simp; exact hMw.out.2.2.2.2.2.1)).cell 0) ((Br.out.fr hV (by simp; exact hMw.out.2.2.2.2.2.1)).cell 1)))
      simp only [List.getElem?_toArray, List.getElem?_cons_zero, List.getElem?_cons_succ] at DC
      clear hIk hFk hX hB HZ HGb HRok HK0 HKl
      go_wp2_with fail
      with_reducible refine hp1.mono ?_
      rintro e w8 ⟨rfl, h8, f8⟩
      have H8 := Lib.hid h8
      have F8 := Lib.hid f8
      have hY := DC.out w8.drew f8.drew
      clear hp1 h8 f8 d2
      go_wp2_with fail
      refine wp_region_held_drew (S := fun W => W.cell? ⟨w4.heap.size, 2, none⟩ = some (.pointer (some ⟨p, 0, none⟩)) ∧ W.cell? ⟨w.heap.size, 0, none⟩ = some (.int .i64 a) ∧ W.cell? ⟨w.heap.size, 1, none⟩ = some (.int .i64 s)) (by kernel_rfl) (hY) (fun yH => ?_)
      refine tkY 0 yH (h := ?_)
      refine tkY 1 yH (h := ?_)
      refine tkY 2 yH (h := ?_)
      refine tkY 3 yH (h := ?_)
      refine tkY 4 yH (h := ?_)
      refine tkY 5 yH (h := ?_)
      refine tkY 6 yH (h := ?_)
      refine wpAnyH_ready (rs := [7]) (by kernel_rfl) (by simp) ?_
      refine AllReadyH.cons (o := ?ooc7) ?hic7 (fun K hK => ?hcc7) AllReadyH.nil
      case hic7 => (simp only [List.getElem?_toArray, List.getElem?_cons_zero, List.getElem?_cons_succ]; rfl)
      go_simp
      with_reducible refine (xput10 w8.drew B p _ (H8.out.fr0 (Fr.refl _ _).drew) (Nat.le_trans HB.out F8.out.drew.size) 12 4 a h64a).mono ?_
      rintro e w9 ⟨rfl, h9, f9⟩
      have H9 := Lib.hid h9
      have F9 := Lib.hid (F8.out.drew.trans f9)
      have hY := DC.out w9 F9.out
      clear h9 f9
      go_wp2_with fail
      refine hK.out _ _ (hY) (fun yH => ?_)
      clear hK K
      try simp only [Act.put, List.setIfInBounds_toArray, List.set_cons_zero, List.set_cons_succ]
      refine wpAnyH_done (by kernel_rfl) ?_ _
      have hY := DC.out w9.drew F9.out.drew
      go_wp2_with fail
      refine wp_region_held_drew (S := fun W => W.cell? ⟨w4.heap.size, 2, none⟩ = some (.pointer (some ⟨p, 0, none⟩)) ∧ W.cell? ⟨w.heap.size, 0, none⟩ = some (.int .i64 a) ∧ W.cell? ⟨w.heap.size, 1, none⟩ = some (.int .i64 s)) (by kernel_rfl) (hY) (fun yH => ?_)
      refine tkY 0 yH (h := ?_)
      refine tkY 1 yH (h := ?_)
      refine tkY 2 yH (h := ?_)
      refine tkY 3 yH (h := ?_)
      refine tkY 4 yH (h := ?_)
      refine tkY 5 yH (h := ?_)
      refine tkY 6 yH (h := ?_)
      refine wpAnyH_ready (rs := [7]) (by kernel_rfl) (by simp) ?_
      refine AllReadyH.cons (o := ?ood7) ?hid7 (fun K hK => ?hcd7) AllReadyH.nil
      case hid7 => (simp only [List.getElem?_toArray, List.getElem?_cons_zero, List.getElem?_cons_succ]; rfl)
      go_simp
      with_reducible refine (xput10 w9.drew B p _ (H9.out.fr0 (Fr.refl _ _).drew) (Nat.le_trans HB.out F9.out.drew.size) 16 4 s h64s).mono ?_
      rintro e w10 ⟨rfl, h10, f10⟩
      have H10 := Lib.hid h10
      have F10 := Lib.hid (F9.out.drew.trans f10)
      have hY := DC.out w10 F10.out
      clear h10 f10
      go_wp2_with fail
      refine hK.out _ _ (hY) (fun yH => ?_)
      clear hK K
      try simp only [Act.put, List.setIfInBounds_toArray, List.set_cons_zero, List.set_cons_succ]
      refine wpAnyH_done (by kernel_rfl) ?_ _
      go_wp2_with fail
      rw [HP.out]
      refine ⟨w4.heap.size, p, pw, bw, B, rfl, Mr.out.fr F10.out (by simp; exact hMw.out.2.2.1), Nat.le_trans HB.out F10.out.size, ?_, HIn.out.fr F10.out (by simp; exact hMw.out.2.2.2.1) (by simp; exact hMw.out.2.2.2.2.1), hMw.out.1, hMw.out.2.1, hMw.out.2.2.1, hMw.out.2.2.2.1, hMw.out.2.2.2.2.1, hMw.out.2.2.2.2.2.2.2, Fr6.out.step F10.out (fun x hx => .inr (hMw.out.2.2.2.2.2.2.2 x (by simp at hx; subst hx; simp)))⟩
      rw [HL.out]
      exact H10.out
end Go.Proofs.YtgoogihfggndpaaGreatDoor
