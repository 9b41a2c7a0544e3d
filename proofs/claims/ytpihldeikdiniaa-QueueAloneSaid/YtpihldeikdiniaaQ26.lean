/- Package slices: IndexFunc with Drop's closure over a line. -/
import Derived.Test.YtpihldeikdiniaaQ25
import Derived.Test.YtpihldeikdiniaaQ12
namespace Go.Proofs.Ytpihldeikdiniaa
open Go.RowKit
set_option linter.unusedVariables false
set_option linter.unusedSimpArgs false
/-- The first place of a number, or -1. -/
def idxN (n : Int) : List QI → Int
  | [] => -1
  | x :: l => if x.num = n then 0 else if idxN n l < 0 then -1 else idxN n l + 1
def IdxRel (w : World) (l : List QI) (n : Int) (i : Value) (wr : World) : Prop :=
  ∃ k, k ≤ l.length ∧ i = .int .i64 (k : Int) ∧ (∀ (j : Nat) (x : QI), j < k → l[j]? = some x → x.num ≠ n) ∧ Frm NoS w wr
def IdxPost (w : World) (l : List QI) (n : Int) (e : Ending) (w' : World) : Prop :=
  ∃ r : Int, e = .returned (.int .i64 r) ∧ Frm NoS w w' ∧ ((r = -1 ∧ ∀ (j : Nat) (x : QI), l[j]? = some x → x.num ≠ n) ∨ ∃ (k : Nat) (x : QI), r = k ∧ l[k]? = some x ∧ x.num = n ∧ ∀ (j : Nat) (y : QI), j < k → l[j]? = some y → y.num ≠ n)
set_option maxRecDepth 100000 in
set_option maxHeartbeats 3200000 in
theorem index_any {okl okb : Nat → Prop} {v : Value} {l : List QI} {r : List (List Value)} (n : Int) (p : Nat) (w : World) (h : LineIn okl okb w v l r) (hp : w.cell? ⟨p, 0, none⟩ = some (.int .i64 n)) :
    Calls Try.prog 111 #[v, .func (.func 112) #[] #[.pointer (some ⟨p, 0, none⟩)]] w (IdxPost w l n) := by
  have HL := Lib.hid h
  have HP := Lib.hid hp
  obtain ⟨A, c, rfl⟩ : ∃ A c, v = .slice A l.length c := by
    rcases h.own.2 with ⟨rfl, hz⟩ | ⟨g, cap, cur, rfl, _⟩
    · exact ⟨none, 0, by rw [hz]⟩
    · exact ⟨_, _, rfl⟩
  have hfew := h.few
  clear h hp
  go_enter Try.func111, Try.ntmps111
  go_wp2_with fail
  go_loopw [8] (fun i wr => IdxRel w l n i wr) (fun i _ => l.length - (intOf i).toNat)
  case atStart => exact ⟨0, Nat.zero_le _, rfl, fun j x hj => by omega, Frm.refl _ _⟩
  case round =>
    obtain ⟨k, hk, rfl, hall, hf⟩ := hrel
    by_cases hlt : k < l.length
    · have hx := List.getElem?_eq_getElem hlt
      generalize l[k] = x at hx
      obtain ⟨g, cap, hv, bv, he, hg, hgl, hln, hcm, hc0, hc1, hc2, hbh, hbb, hfz, hr⟩ := (HL.out.frm hf (fun _ _ _ h => h) (fun _ _ _ h => h)).at_ hx
      simp only [Value.slice.injEq] at he
      obtain ⟨rfl, _, rfl⟩ := he
      obtain ⟨A1, c1, rfl, _⟩ := hbh
      obtain ⟨A2, c2, rfl, _⟩ := hbb
      have HPR := Lib.hid (pred_any x.num n A1 A2 x.h.length c1 x.b.length c2 p wr (hf.keep HP.out (fun h => h)))
      have HA := Lib.hid hall
      have HF := Lib.hid hf
      have HX := Lib.hid hx
      clear hall hf hx hfz hr hg
      go_wp2_with fail
      refine HPR.out.mono ?_
      rintro rr w2 ⟨rfl, hw2⟩
      have HF2 : Hid (Frm NoS w w2) := by unfold Hid; rw [hw2]; exact HF.out.alloc _
      clear hw2
      by_cases hxn : x.num = n
      · have hbe : (x.num == n) = true := by simp [hxn]
        rw [hbe]
        have HXN := Lib.hid hxn
        clear hbe hxn
        go_wp2_with fail
        go_ret
        exact ⟨k, rfl, HF2.out, .inr ⟨k, x, rfl, HX.out, HXN.out, HA.out⟩⟩
      · have hbe : (x.num == n) = false := by simp [hxn]
        rw [hbe]
        have HXN := Lib.hid hxn
        clear hbe hxn
        go_wp2_with fail
        go_roundw
        case rel => exact ⟨k + 1, by omega, by go_num, fun j y hj hy => by
          by_cases e : j = k
          · subst e; rw [HX.out] at hy; obtain rfl := Option.some.inj hy; exact HXN.out
          · exact HA.out j y (by omega) hy, HF2.out⟩
        case measure => simp [intOf]; omega
    · obtain rfl : k = l.length := by omega
      have HA := Lib.hid hall
      have HF := Lib.hid hf
      clear hall hf
      go_wp2_with fail
      go_ret
      exact ⟨-1, rfl, HF.out, .inl ⟨rfl, fun j x hj => HA.out j x (List.getElem?_eq_some_iff.1 hj).1 hj⟩⟩
end Go.Proofs.Ytpihldeikdiniaa
