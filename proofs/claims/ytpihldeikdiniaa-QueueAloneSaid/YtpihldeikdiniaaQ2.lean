/- Package queue: New; a slice of bytes, copied; an item's own copy; its size. -/
import Derived.Test.YtpihldeikdiniaaQ1
import Derived.Test.YtpihldeikdiniaaA1
import Derived.WalkSpells
import Derived.StillTailTactics
namespace Go.Proofs.Ytpihldeikdiniaa
open Go.RowKit
set_option linter.unusedVariables false
set_option linter.unusedSimpArgs false
theorem Try.infoU8 : (Try.prog.info? 5).map (fun i => (i.zero, i.size, i.bytes)) = some (some (.int .u8 0), 1, 1) := by kernel_rfl
theorem Try.infoLine : (Try.prog.info? 146).map (fun i => (i.zero, i.size, i.bytes)) = some (some (.agg #[.slice none 0 0, .int .i64 0]), 2, 32) := by kernel_rfl
theorem Try.infoItem : (Try.prog.info? 57).map (fun i => (i.zero, i.size, i.bytes)) = some (some (.agg #[.int .i64 0, .slice none 0 0, .slice none 0 0]), 3, 56) := by kernel_rfl
set_option maxHeartbeats 1000000 in
theorem size_any (n : Int) (A A' : Option Addr) (l c l' c' : Nat) (w : World) (h1 : l ≤ 140737488351232) (h2 : l' ≤ 140737488351232) :
    Calls Try.prog 36 #[.agg #[.int .i64 n, .slice A l c, .slice A' l' c']] w fun r w' => r = .returned (.int .i64 ((l : Int) + (l' : Int))) ∧ w' = w.alloc (.cells #[.int .i64 n, .slice A l c, .slice A' l' c'] 57) := by
  go_enter Try.func36, Try.ntmps36
  go_wp2
  go_ret
  exact ⟨rfl, rfl⟩
/-- The bytes' cells. -/
def u8s (l : List UInt8) : List Value := l.map fun x => .int .u8 x.toNat
set_option maxHeartbeats 2000000 in
theorem clone_at (a : Addr) (c : Nat) (l : List UInt8) (w : World) (hbig : l.length ≤ 140737488351232) (hc : ∀ j x, l[j]? = some x → w.cell? (a.add j) = some (.int .u8 x.toNat)) :
    Calls Try.prog 94 #[.slice (some a) l.length c] w fun e w' => ∃ v', e = .returned v' ∧ w'.ownsRow w.heap.size 5 1 v' l.length (u8s l) ∧ v' ≠ .slice none 0 0 ∧ Below w.heap.size w w' := by
  obtain ⟨i0, hi, hz0, hz1, hz2⟩ := info_parts Try.infoU8
  have q22 : ∀ (w : World) (a : Option Addr) (n c n' c' : Nat), (binOp .eql 55 (.slice a n c) (.slice none n' c')).run Try.prog w = .ok (.bool a.isNone) w := fun w a n c n' c' => Lib.run_eql_slice_nil w _ _ a n c n' c' Try.underlying55
  have HC := Lib.hid hc
  clear hc
  have hln : (u8s l).length = l.length := by simp [u8s]
  have HL := Lib.hid hln
  clear hln
  generalize hn : l.length = n at *
  have HN := Lib.hid hn
  clear hn
  go_enter Try.func94, Try.ntmps94
  go_wp2_with (at_builtin; refine wpList_append_own _ rfl _ _ 55 rfl w.heap.size 5 i0 (.int .u8 0) 1 1 Try.underlying55 hi hz0 hz1 hz2 rfl (by decide) _ _ _ rfl (World.ownsRow_made w #[] 0 (Nat.le_refl _) (Nat.zero_le _) rfl) a n c (u8s l) rfl ?qc1 ?qc2 ?qc3 ?qc4 ?qc5 ?qc6 ?_)
  case qc1 => rw [HL.out]; omega
  case qc2 =>
    intro j u hj
    unfold u8s at hj
    rw [List.getElem?_map] at hj
    cases hx : l[j]? with
    | none => rw [hx] at hj; cases hj
    | some x =>
      rw [hx] at hj
      have : Value.int .u8 x.toNat = u := by simpa using hj
      subst this
      have h1 := HC.out j x hx
      exact (World.cell?_alloc_lt _ _ _ (World.block_lt_of_cell? w _ h1)).trans h1
  case qc3 =>
    intro u hu
    obtain ⟨x, _, rfl⟩ := List.mem_map.1 hu
    rfl
  case qc4 => unfold maxLen; omega
  case qc5 => omega
  case qc6 => simp
  intro v' w1 hown hgrow hnil
  go_wp2
  go_ret
  refine ⟨v', rfl, by simpa using hown, ?_, ?_⟩
  · first | exact hnil | (intro e; exact absurd (hnil.1 e).1 (by simp))
  · exact ((Below.refl _ w).alloc (Nat.le_refl _) _).grown hgrow (by simp) (by intro k hk; simp [Value.ownBlock] at hk; omega)
set_option maxHeartbeats 1000000 in
theorem clone_nil (n c : Nat) (w : World) :
    Calls Try.prog 94 #[.slice none n c] w fun e w' => e = .returned (.slice none 0 0) ∧ w = w' := by
  have q22 : ∀ (w : World) (a : Option Addr) (n c n' c' : Nat), (binOp .eql 55 (.slice a n c) (.slice none n' c')).run Try.prog w = .ok (.bool a.isNone) w := fun w a n c n' c' => Lib.run_eql_slice_nil w _ _ a n c n' c' Try.underlying55
  go_enter Try.func94, Try.ntmps94
  go_wp2
  go_ret
  exact ⟨rfl, rfl⟩
/-- A slice's block may be written, and is none of the older ones. -/
def FreeIn (base : Nat) (w : World) (v : Value) : Prop := ∀ b, v.ownBlock = some b → base ≤ b ∧ b < w.heap.size ∧ ∀ j, w.frozen? ⟨b, j, none⟩ = false
theorem FreeIn.frm {base : Nat} {S : Nat → Nat → Prop} {w w' : World} {v : Value} (h : FreeIn base w v) (hf : Frm S w w') (hn : ∀ k, base ≤ k → k < w.heap.size → ∀ j, ¬ S k j) : FreeIn base w' v := fun b hb => by
  obtain ⟨h1, h2, h3⟩ := h b hb
  exact ⟨h1, Nat.lt_of_lt_of_le h2 hf.size, fun j => (hf.frozen (p := ⟨b, j, none⟩) h2 (hn b h1 h2 0)).trans (h3 j)⟩
theorem FreeIn.mono {base base' : Nat} {w : World} {v : Value} (h : FreeIn base w v) (hb : base' ≤ base) : FreeIn base' w v := fun b hv => by
  obtain ⟨h1, h2, h3⟩ := h b hv
  exact ⟨by omega, h2, h3⟩
/-- What a copy of bytes is: the same bytes, in memory of its own. -/
def ClonePost (w : World) (l : List UInt8) (e : Ending) (w' : World) : Prop :=
  ∃ v', e = .returned v' ∧ BytesIn (fun k => w.heap.size ≤ k ∧ k < w'.heap.size) w' v' l ∧ Below w.heap.size w w' ∧ (∃ A c, v' = .slice A l.length c) ∧ FreeIn w.heap.size w' v'
theorem clone_any {ok : Nat → Prop} {v : Value} {l : List UInt8} (w : World) (h : BytesIn ok w v l) : Calls Try.prog 94 #[v] w (ClonePost w l) := by
  obtain ⟨A, cap, rfl, hl, hm, hb, hc⟩ := h
  by_cases hA : ∃ a, A = some a
  · obtain ⟨a, rfl⟩ := hA
    refine (clone_at a cap l w hb ?_).mono ?_
    · intro j x hj
      have h0 : 0 < l.length := by have := (List.getElem?_eq_some_iff.1 hj).1; omega
      obtain ⟨b, o, ha, _, hcell⟩ := hc h0
      obtain rfl := Option.some.inj ha
      have := hcell j x hj
      have e : (⟨b, o, none⟩ : Addr).add j = ⟨b, o + j, none⟩ := by unfold Addr.add; split <;> simp_all
      rw [e]; exact this
    · rintro e w' ⟨v', rfl, hown, hne, hbl⟩
      rcases hown.2 with ⟨rfl, _⟩ | ⟨g, cap', cur, rfl, hg, hh, hn, hcm, hs, ht⟩
      · exact absurd rfl hne
      · have hg2 := (Array.getElem?_eq_some_iff.1 hh).1
        refine ⟨_, rfl, ⟨_, _, rfl, hn, hcm, hb, fun h0 => ⟨g, 0, rfl, ⟨hg, hg2⟩, fun j x hj => ?_⟩⟩, hbl, ⟨_, _, rfl⟩, fun b hb2 => by obtain rfl : g = b := (by simpa [Value.ownBlock] using hb2); exact ⟨hg, hg2, fun j => hown.frozenAt j⟩⟩
        have hcells := hown.cells (g := g) rfl j (.int .u8 x.toNat) (by unfold u8s; rw [List.getElem?_map, hj]; rfl)
        have e : (⟨g, 0, none⟩ : Addr).add j = ⟨g, 0 + j, none⟩ := by unfold Addr.add; split <;> simp_all
        rwa [e] at hcells
  · have hn : A = none := by cases A with
      | none => rfl
      | some a => exact absurd ⟨a, rfl⟩ hA
    subst hn
    have h0 : l = [] := by
      cases l with
      | nil => rfl
      | cons x l => obtain ⟨b, o, ha, _⟩ := hc (by simp); cases ha
    subst h0
    refine (clone_nil 0 cap w).mono ?_
    rintro e w' ⟨rfl, rfl⟩
    exact ⟨_, rfl, ⟨none, 0, rfl, Nat.le_refl _, Nat.zero_le _, by decide, fun h => absurd h (by simp)⟩, Below.refl _ _, ⟨none, 0, rfl⟩, fun b hb2 => by simp [Value.ownBlock] at hb2⟩
end Go.Proofs.Ytpihldeikdiniaa
