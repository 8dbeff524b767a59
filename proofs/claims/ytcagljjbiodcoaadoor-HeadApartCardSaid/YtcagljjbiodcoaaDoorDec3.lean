/- head.Decode, whole; the page's example (heads). -/
import Derived.Test.YtcagljjbiodcoaaDoorDec2
import Derived.Lib.SlBytesConst
import Derived.ShutString
namespace Go.Proofs.YtcagljjbiodcoaaDoor
set_option linter.unusedVariables false
open Go.RowKit

theorem decode_any (w : World) (hT : Tabs w) (a : Option Addr) (c : Nat) (l : List Nat) (h : Byt w a l) :
    Calls Tryd.prog 64 #[.slice a l.length c] w fun e w' => e = .returned (decV (dec l)) ∧ Fr [] w w' := by
  by_cases h0 : l.length = 0
  · have hd : dec l = (3, HB.zero) := by rw [dec, if_pos h0]
    rw [hd, h0]
    exact decode_e0 w a c
  obtain ⟨g, o, rfl, hc, hg⟩ := h.at_ 0 (by omega)
  rw [Nat.add_zero] at hc
  have hb : l[0]?.getD 0 < 256 := by
    rcases e : l[0]? with _ | x
    · simp
    · simpa using h.byte x (List.mem_of_getElem? e)
  by_cases h2 : 2 < l[0]?.getD 0
  · have hd : dec l = (4, HB.zero) := by rw [dec, if_neg h0, if_pos h2]
    rw [hd]
    exact decode_e1 w g o l.length c _ (by omega) h.len hc hg h2 hb
  by_cases h3 : l.length < szZ (l[0]?.getD 0 : Nat)
  · have hd : dec l = (3, HB.zero) := by rw [dec, if_neg h0, if_neg h2, if_pos h3]
    rw [hd]
    exact decode_e2 w hT g o l.length c _ (by omega) h.len hc hg (by omega) h3
  have hd : dec l = if 1 < decN l (l[0]?.getD 0 : Nat) 2 ∨ (HB.ofNums (decN l (l[0]?.getD 0 : Nat))).right = false then (4, HB.zero) else (0, HB.ofNums (decN l (l[0]?.getD 0 : Nat))) := by
    rw [dec, if_neg h0, if_neg h2, if_neg h3]
  exact decode_yes w hT g o c _ _ l h rfl (by omega) rfl (by omega) (by omega) _ rfl _ hd

def exH : HB := { tag := 2, cls := 1, used := false, label := 3, name := 5, next := 0, prev := 0, refs := 1, expiry := 0, typ := 0, size := 0, hash := 7 }
theorem exH_ok : exH.Ok := by constructor <;> simp [exH]
theorem exH_right : exH.right = true := by decide
theorem exH_enc : exH.enc = [2, 1, 0, 3, 5, 0, 0, 0, 1, 0, 0, 0, 7, 0, 0, 0] := by decide
theorem exH_dec : dec [2, 1, 0, 3, 5, 0, 0, 0, 1, 0, 0, 0, 7, 0, 0, 0] = (0, exH) := rfl
end Go.Proofs.YtcagljjbiodcoaaDoor
