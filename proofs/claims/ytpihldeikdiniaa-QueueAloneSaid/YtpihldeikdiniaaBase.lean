/- General words for all walks: what a call may have written, cell by cell ('Frm S w w''), and small facts on worlds. -/
import Derived.WalkKit
import Derived.WalkSpells
import Derived.WalkLawsBesides
import Derived.Lib.Hide
import Derived.Deep.Draws
namespace Go.Proofs.Ytpihldeikdiniaa
open Go.RowKit
/-- Of an old block only the cells of S may have turned; its type, its size and its marks stand. -/
def BlkSame (S : Nat → Prop) (o o' : Option Obj) : Prop :=
  o' = o ∨ (∃ c c' t fr, o = some (.cells c t fr) ∧ o' = some (.cells c' t fr) ∧ c'.size = c.size ∧ ∀ j, ¬ S j → c'[j]? = c[j]?) ∨ ∀ j, S j
theorem BlkSame.refl (S : Nat → Prop) (o : Option Obj) : BlkSame S o o := .inl rfl
theorem BlkSame.mono {S S' : Nat → Prop} {o o' : Option Obj} (h : BlkSame S o o') (hs : ∀ j, S j → S' j) : BlkSame S' o o' := by
  rcases h with h | ⟨c, c', t, fr, h1, h2, h3, h4⟩ | h
  · exact .inl h
  · exact .inr (.inl ⟨c, c', t, fr, h1, h2, h3, fun j hj => h4 j (fun k => hj (hs j k))⟩)
  · exact .inr (.inr fun j => hs j (h j))
theorem BlkSame.trans {S : Nat → Prop} {o o1 o2 : Option Obj} (h : BlkSame S o o1) (k : BlkSame S o1 o2) : BlkSame S o o2 := by
  rcases h with rfl | ⟨c, c', t, fr, h1, h2, h3, h4⟩ | h
  · exact k
  · rcases k with rfl | ⟨d, d', t', fr', k1, k2, k3, k4⟩ | k
    · exact .inr (.inl ⟨c, c', t, fr, h1, h2, h3, h4⟩)
    · rw [h2] at k1
      injection k1 with k1
      injection k1 with e1 e2 e3
      subst e1 e2 e3
      exact .inr (.inl ⟨c, d', t, fr, h1, k2, k3.trans h3, fun j hj => (k4 j hj).trans (h4 j hj)⟩)
    · exact .inr (.inr k)
  · exact .inr (.inr h)
theorem BlkSame.none_ {S : Nat → Prop} {o o' : Option Obj} (h : BlkSame S o o') (hs : ∀ j, ¬ S j) : o' = o := by
  rcases h with h | ⟨c, c', t, fr, h1, h2, h3, h4⟩ | h
  · exact h
  · have : c' = c := Array.ext_getElem? fun j => h4 j (hs j)
    rw [h1, h2, this]
  · exact absurd (h 0) (hs 0)
structure Frm (S : Nat → Nat → Prop) (w w' : World) : Prop where
  os : w'.os = w.os
  tape : w'.tape = w.tape
  output : w'.output = w.output
  size : w.heap.size ≤ w'.heap.size
  block : ∀ k, k < w.heap.size → BlkSame (S k) w.heap[k]? w'.heap[k]?
def NoS : Nat → Nat → Prop := fun _ _ => False
section
variable {S S' : Nat → Nat → Prop} {w w1 w2 : World}
theorem Frm.refl (S : Nat → Nat → Prop) (w : World) : Frm S w w := ⟨rfl, rfl, rfl, Nat.le_refl _, fun _ _ => .refl _ _⟩
theorem Frm.mono (h : Frm S w w1) (hs : ∀ k j, k < w.heap.size → S k j → S' k j) : Frm S' w w1 :=
  ⟨h.os, h.tape, h.output, h.size, fun k hk => (h.block k hk).mono (fun j => hs k j hk)⟩
theorem Frm.then_ (h : Frm S w w1) (k : Frm S' w1 w2) (hs : ∀ b j, b < w.heap.size → S' b j → S b j) : Frm S w w2 :=
  ⟨k.os.trans h.os, k.tape.trans h.tape, k.output.trans h.output, Nat.le_trans h.size k.size,
    fun b hb => (h.block b hb).trans ((k.block b (Nat.lt_of_lt_of_le hb h.size)).mono (fun j => hs b j hb))⟩
theorem Frm.trans (h : Frm S w w1) (k : Frm S w1 w2) : Frm S w w2 := h.then_ k (fun _ _ _ h => h)
theorem Frm.drew (h : Frm S w w1) : Frm S w w1.drew := ⟨h.os, h.tape, h.output, h.size, h.block⟩
theorem Frm.drewN (h : Frm S w w1) (n : Nat) : Frm S w (w1.drewN n) := ⟨h.os, h.tape, h.output, h.size, h.block⟩
theorem Frm.of_below (h : Below w.heap.size w w1) : Frm S w w1 := ⟨h.os, h.tape, h.output, h.size, fun k hk => .inl (h.block k hk)⟩
theorem Frm.below (h : Frm S w w1) (hs : ∀ k j, k < w.heap.size → ¬ S k j) : Below w.heap.size w w1 :=
  ⟨h.os, h.tape, h.output, h.size, fun k hk => (h.block k hk).none_ (fun j => hs k j hk)⟩
theorem Frm.belowB {B : Nat} (h : Frm S w w1) (hB : B ≤ w.heap.size) (hs : ∀ k j, k < B → ¬ S k j) : Below B w w1 :=
  ⟨h.os, h.tape, h.output, h.size, fun k hk => (h.block k (Nat.lt_of_lt_of_le hk hB)).none_ (fun j => hs k j hk)⟩
theorem Frm.no (h : Frm NoS w w1) : Below w.heap.size w w1 := h.below (fun _ _ _ h => h)
theorem Frm.of_belowB {B : Nat} (h : Below B w w1) (hsame : ∀ k, k < w.heap.size → B ≤ k → BlkSame (S k) w.heap[k]? w1.heap[k]?) : Frm S w w1 :=
  ⟨h.os, h.tape, h.output, h.size, fun k hk => if hb : k < B then .inl (h.block k hb) else hsame k hk (by omega)⟩
theorem Frm.alloc (h : Frm S w w1) (o : Obj) : Frm S w (w1.alloc o) :=
  h.trans (Frm.of_below ((Below.refl _ _).alloc (Nat.le_refl _) o))
theorem Frm.set_old (h : Frm S w w1) {p : Addr} (hp : S p.block p.off) (v : Value) : Frm S w (w1.setCell p v) := by
  refine ⟨h.os, h.tape, h.output, by simpa using h.size, fun k hk => (h.block k hk).trans ?_⟩
  by_cases e : k = p.block
  · subst e
    have : (w1.setCell p v).heap[p.block]? = (w1.heap[p.block]?).map fun o => match o with
        | .cells c elem frozen => Obj.cells (if p.spot.isSome then c else c.setIfInBounds p.off v) elem frozen
        | o => o := by
      simp only [World.setCell, Array.getElem?_modify, if_true]
      cases w1.heap[p.block]? with
      | none => rfl
      | some o => cases o <;> rfl
    rw [this]
    cases hh : w1.heap[p.block]? with
    | none => exact .inl rfl
    | some o =>
      cases o with
      | cells c t fr =>
        refine .inr (.inl ⟨c, _, t, fr, rfl, rfl, ?_, ?_⟩)
        · split <;> simp
        · intro j hj
          split
          · rfl
          · rw [Array.getElem?_setIfInBounds]
            split
            · rename_i e2; exact absurd (e2 ▸ hp) hj
            · rfl
      | _ => exact .inl rfl
  · rw [Below.heap_setCell _ _ _ _ e]; exact .refl _ _
theorem Frm.set_new (h : Frm S w w1) {p : Addr} (hp : w.heap.size ≤ p.block) (v : Value) : Frm S w (w1.setCell p v) := by
  refine ⟨h.os, h.tape, h.output, by simpa using h.size, fun k hk => ?_⟩
  rw [Below.heap_setCell _ _ _ _ (by omega)]
  exact h.block k hk
theorem Frm.cell (h : Frm S w w1) {p : Addr} (hp : p.block < w.heap.size) (hn : ¬ S p.block p.off) : w1.cell? p = w.cell? p := by
  rcases h.block p.block hp with e | ⟨c, c', t, fr, h1, h2, h3, h4⟩ | e
  · exact World.cell?_of_block e
  · simp only [World.cell?, h1, h2, h4 _ hn]
  · exact absurd (e _) hn
theorem Frm.frozen (h : Frm S w w1) {p : Addr} (hp : p.block < w.heap.size) {j : Nat} (hn : ¬ S p.block j) : w1.frozen? p = w.frozen? p := by
  rcases h.block p.block hp with e | ⟨c, c', t, fr, h1, h2, h3, h4⟩ | e
  · exact World.frozen?_of_block e
  · simp only [World.frozen?, h1, h2]
  · exact absurd (e _) hn
/-- A cell that was read stays as it was read. -/
theorem Frm.keep (h : Frm S w w1) {p : Addr} {v : Value} (hc : w.cell? p = some v) (hn : ¬ S p.block p.off) : w1.cell? p = some v :=
  (h.cell (World.block_lt_of_cell? w _ hc) hn).trans hc
theorem Frm.keepf (h : Frm S w w1) {p : Addr} {v : Value} (hc : w.cell? p = some v) (hf : w.frozen? p = false) {j : Nat} (hn : ¬ S p.block j) : w1.frozen? p = false :=
  (h.frozen (World.block_lt_of_cell? w _ hc) hn).trans hf
/-- A cell that was there is there. -/
theorem Frm.there (h : Frm S w w1) {b j : Nat} {v : Value} (hc : w.cell? ⟨b, j, none⟩ = some v) {i : Nat} (hn : ¬ S b i) : ∃ u, w1.cell? ⟨b, j, none⟩ = some u := by
  have hlt : b < w.heap.size := World.block_lt_of_cell? w _ hc
  rcases h.block b hlt with e | ⟨c, c', t, fr, h1, h2, h3, h4⟩ | e
  · exact ⟨v, (World.cell?_of_block (a := ⟨b, j, none⟩) e).trans hc⟩
  · have hj : c[j]? = some v := by simpa [World.cell?, h1] using hc
    have hlt2 : j < c'.size := by rw [h3]; exact (Array.getElem?_eq_some_iff.1 hj).1
    exact ⟨c'[j], by simp [World.cell?, h2, hlt2]⟩
  · exact absurd (e _) hn
/-- A block of which nothing was written. -/
theorem Frm.blk (h : Frm S w w1) {k : Nat} {o : Obj} (hb : w.heap[k]? = some o) (hn : ∀ j, ¬ S k j) : w1.heap[k]? = some o :=
  ((h.block k (Array.getElem?_eq_some_iff.1 hb).1).none_ hn).trans hb
theorem Frm.of_grown {row : Option Nat} (h : w.grownBy w1 row) (hS : ∀ k, row = some k → ∀ j, S k j) : Frm S w w1 :=
  ⟨h.os, h.tape, h.output, h.size, fun k hk => if e : some k = row then .inr (.inr (hS k e.symm)) else .inl (h.block k hk e)⟩
end
theorem bl_alloc {w W : World} (h : Below w.heap.size w W) (o : Obj) : Below w.heap.size w (W.alloc o) := h.alloc h.size o
theorem bl_set {w W : World} (h : Below w.heap.size w W) {b j : Nat} (hb : w.heap.size ≤ b) (v : Value) : Below w.heap.size w (W.setCell ⟨b, j, none⟩ v) := h.setCell (p := ⟨b, j, none⟩) hb v
theorem bl_drewN {w W : World} (h : Below w.heap.size w W) (n : Nat) : Below w.heap.size w (W.drewN n) := ⟨h.os, h.tape, h.output, h.size, h.block⟩
theorem bl_then {w W W' : World} (h : Below w.heap.size w W) (k : Below W.heap.size W W') : Below w.heap.size w W' := h.trans (k.mono h.size)
theorem bcell {W w1 : World} (hb : Below W.heap.size W w1) : (∀ b o, b < W.heap.size → w1.cell? ⟨b, o, none⟩ = W.cell? ⟨b, o, none⟩) ∧ (∀ b o, b < W.heap.size → w1.frozen? ⟨b, o, none⟩ = W.frozen? ⟨b, o, none⟩) :=
  ⟨fun b o h => hb.cell (p := ⟨b, o, none⟩) h, fun b o h => hb.frozen (p := ⟨b, o, none⟩) h⟩
/-- An old block is none of the next new ones, in the walk's own spelling. -/
theorem ne_new {b n : Nat} (h : b < n) : (¬ b = n ∧ ¬ b = n + 1 ∧ ¬ b = n + 1 + 1 ∧ ¬ b = n + 1 + 1 + 1 ∧ ¬ b = n + 1 + 1 + 1 + 1 ∧ ¬ b = n + 1 + 1 + 1 + 1 + 1) ∧ b < n + 1 ∧ b < n + 1 + 1 ∧ b < n + 1 + 1 + 1 ∧ b < n + 1 + 1 + 1 + 1 ∧ b < n + 1 + 1 + 1 + 1 + 1 :=
  ⟨⟨by omega, by omega, by omega, by omega, by omega, by omega⟩, by omega, by omega, by omega, by omega, by omega⟩
theorem ret_int {k : IntKind} {a b : Int} (h : a = b) : Ending.returned (.int k a) = .returned (.int k b) := by rw [h]
theorem ret_bool {a b : Bool} (h : a = b) : Ending.returned (.bool a) = .returned (.bool b) := by rw [h]
end Go.Proofs.Ytpihldeikdiniaa
