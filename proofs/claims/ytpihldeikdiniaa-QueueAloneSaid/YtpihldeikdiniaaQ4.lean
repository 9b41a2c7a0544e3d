/- Package queue: New. -/
import Derived.Test.YtpihldeikdiniaaQ2
namespace Go.Proofs.Ytpihldeikdiniaa
open Go.RowKit
set_option linter.unusedVariables false
set_option linter.unusedSimpArgs false
theorem made_get (z : Array Value) (n i : Nat) (h : i < n) : (madeCells z n)[i]? = some (z[i % z.size]!) := by
  simp [madeCells, h]
/-- A new queue's blocks. -/
def tgNew (bl : Nat) : Nat → Nat := fun k => if k = bl then 2 else if k = bl + 1 then 1 else 0
theorem QRep.new (w : World) (T : Nat) (B I : Int) (hT : 1 ≤ T ∧ T ≤ 64) (hB : 0 ≤ B ∧ B ≤ 1048576) (hI : 1 ≤ I ∧ I ≤ 4096) :
    QRep (tgNew w.heap.size) ((w.alloc (.cells (madeCells #[.slice none 0 0, .int .i64 0] (T * 2)) 146)).alloc (.cells #[.slice (some ⟨w.heap.size, 0, none⟩) T T, .int .i64 B, .int .i64 I] 141)) (w.heap.size + 1) w.heap.size T B I (fun _ => []) where
  tq := by simp [tgNew]
  tl := by simp [tgNew]
  T1 := hT
  B1 := hB
  I1 := hI
  c0 := World.cell?_alloc_at _ _ _ _ (by simp)
  c1 := World.cell?_alloc_at _ _ _ _ (by simp)
  c2 := World.cell?_alloc_at _ _ _ _ (by simp)
  line := fun t ht => by
    refine ⟨.slice none 0 0, [], ?_, { items := .nil, own := World.ownsRow_nil _ _ _ _, ok := fun k hk => by simp [Value.ownBlock] at hk, few := by decide }⟩
    rw [World.cell?_alloc_past _ _ _ (by simp), World.cell?_alloc_at _ _ _ _ rfl, made_get _ _ _ (by omega)]
    have : t * 2 % 2 = 0 := by omega
    simp [this]
  cnt := fun t ht => by
    rw [World.cell?_alloc_past _ _ _ (by simp), World.cell?_alloc_at _ _ _ _ rfl, made_get _ _ _ (by omega)]
    have : (t * 2 + 1) % 2 = 1 := by omega
    simp [this, qbytes]
  fz := fun j => by rw [World.frozen?_alloc_past _ _ _ (by simp), World.frozen?_alloc_at _ _ _ _ rfl]
  lim := fun t ht => hB.1
  lt := fun k hk => by
    unfold tgNew at hk
    simp
    split at hk
    · omega
    · split at hk
      · omega
      · exact absurd rfl hk
def NewPost (T B I : Int) (w : World) (e : Ending) (w' : World) : Prop :=
  ∃ q bl tg, e = .returned (.tuple #[.pointer (some ⟨q, 0, none⟩), .int .i64 0]) ∧ QRep tg w' q bl T.toNat B I (fun _ => []) ∧ (∀ k, tg k ≠ 0 → w.heap.size ≤ k) ∧ Below w.heap.size w w'
def newOK (T B I : Int) : Prop := (1 ≤ T ∧ T ≤ 64) ∧ (0 ≤ B ∧ B ≤ 1048576) ∧ (1 ≤ I ∧ I ≤ 4096)
set_option maxRecDepth 100000 in
set_option maxHeartbeats 1000000 in
theorem new_yes (T B I : Int) (w : World) (h : newOK T B I) : Calls Try.prog 32 #[.int .i64 T, .int .i64 B, .int .i64 I] w (NewPost T B I w) := by
  obtain ⟨⟨t1, t2⟩, ⟨b1, b2⟩, ⟨i1, i2⟩⟩ := h
  obtain ⟨i0, hi, hz0, hz1, hz2⟩ := info_parts Try.infoLine
  have hmk := run_make (P := Try.prog) w 139 146 i0 _ Try.underlying139 hi hz0 .i64 .i64 T T (by omega) (Int.le_refl _) (by rw [hz2]; omega) (by omega)
  rw [hz1] at hmk
  go_enter Try.func32, Try.ntmps32
  go_wp2
  go_ret2
  refine ⟨w.heap.size + 1, w.heap.size, tgNew w.heap.size, rfl, ?_, ?_, bl_alloc (bl_alloc (Below.refl _ _) _) _⟩
  · have hq := QRep.new w T.toNat B I ⟨by omega, by omega⟩ ⟨b1, b2⟩ ⟨i1, i2⟩
    exact hq
  · intro k hk
    unfold tgNew at hk
    split at hk
    · omega
    · split at hk
      · omega
      · exact absurd rfl hk
set_option maxRecDepth 100000 in
set_option maxHeartbeats 4000000 in
theorem new_no (T B I : Int) (w : World) (h : ¬ newOK T B I) : Calls Try.prog 32 #[.int .i64 T, .int .i64 B, .int .i64 I] w fun e w' => e = .returned (.tuple #[.pointer none, .int .i64 11]) ∧ w = w' := by
  have h' : T < 1 ∨ 64 < T ∨ B < 0 ∨ 1048576 < B ∨ I < 1 ∨ 4096 < I := by unfold newOK at h; omega
  clear h
  by_cases h1 : T < 1
  · clear h'
    go_enter Try.func32, Try.ntmps32
    go_wp2
    go_ret2
    exact ⟨rfl, rfl⟩
  by_cases h2 : 64 < T
  · clear h'
    go_enter Try.func32, Try.ntmps32
    go_wp2
    go_ret2
    exact ⟨rfl, rfl⟩
  by_cases h3 : B < 0
  · clear h'
    go_enter Try.func32, Try.ntmps32
    go_wp2
    go_ret2
    exact ⟨rfl, rfl⟩
  by_cases h4 : 1048576 < B
  · clear h'
    go_enter Try.func32, Try.ntmps32
    go_wp2
    go_ret2
    exact ⟨rfl, rfl⟩
  by_cases h5 : I < 1
  · clear h'
    go_enter Try.func32, Try.ntmps32
    go_wp2
    go_ret2
    exact ⟨rfl, rfl⟩
  have h6 : 4096 < I := by omega
  clear h'
  go_enter Try.func32, Try.ntmps32
  go_wp2
  go_ret2
  exact ⟨rfl, rfl⟩
end Go.Proofs.Ytpihldeikdiniaa
