/- Package squintlaw18: awake. -/
import Derived.Test.YtpihldeikdiniaaQ14
import Derived.Test.YtpihldeikdiniaaQ6
import Derived.Test.YtpihldeikdiniaaQ4
import Derived.Laws.BytesArg
import Derived.Lib.SlBytesConst
import Derived.Lib.SmallJoins
namespace Go.Proofs.Ytpihldeikdiniaa
open Go.RowKit
set_option linter.unusedVariables false
set_option linter.unusedSimpArgs false
/-- A slice's bytes as a string. -/
theorem str_of {ok : Nat → Prop} {w : World} {v : Value} {l : List UInt8} (h : BytesIn ok w v l) : (convert 55 9 v).run Try.prog w = .ok (.string ⟨l.toArray⟩) w := by
  obtain ⟨A, cap, rfl, hl, hm, hb, hc⟩ := h
  cases l with
  | nil =>
    cases A with
    | none => exact run_convert_bytes_nil w _ _ Try.underlying55 Try.underlying5 _ _ _ Try.underlying9
    | some a =>
      have hz : (loadCells a 0).run Try.prog w = .ok (([] : List Int).map (Value.int .u8)).toArray w := by
        have := run_loadCells_list (P := Try.prog) w a [] (fun j v hj => by simp at hj)
        simpa using this
      rw [run_convert_bytes_string w _ _ _ _ _ _ Try.underlying55 Try.underlying5 Try.underlying9]
      show (Conv.bytesToString (.slice (some a) 0 cap)).run Try.prog w = _
      rw [run_bytesToString w a 0 cap [] hz]
      rfl
  | cons x l =>
    obtain ⟨b, o, rfl, hok, hcell⟩ := hc (by simp)
    have h1 := run_convert_bytes_arg (P := Try.prog) w _ _ Try.underlying55 Try.underlying5 b o (x :: l).length cap ((x :: l).map fun y => (y.toNat : Int)) (by simp) (fun i hi => by
      have := hcell i _ (List.getElem?_eq_getElem hi)
      rw [this]
      simp only [List.getD_eq_getElem?_getD, List.getElem?_map, List.getElem?_eq_getElem hi]
      rfl) _ Try.underlying9
    rw [h1]
    have he : (fun n : Int => UInt8.ofNat n.toNat) ∘ (fun y : UInt8 => (y.toNat : Int)) = id := by funext y; simp
    simp only [strOfNums, List.map_map, he, List.map_id]
theorem BytesIn.lit {w : World} {b n : Nat} {l : List UInt8} (hn : l.length = n) (hb : n ≤ 140737488351232) (hc : ∀ j x, l[j]? = some x → w.cell? ⟨b, j, none⟩ = some (.int .u8 x.toNat)) : BytesIn (fun _ => True) w (.slice (some ⟨b, 0, none⟩) n n) l :=
  ⟨some ⟨b, 0, none⟩, n, by rw [hn], by omega, by unfold maxLen; omega, by omega, fun _ => ⟨b, 0, rfl, trivial, fun j x hj => by rw [Nat.zero_add]; exact hc j x hj⟩⟩
theorem BytesIn.nil_ (w : World) : BytesIn (fun _ => True) w (.slice none 0 0) [] := ⟨none, 0, rfl, Nat.le_refl _, Nat.zero_le _, by decide, fun h => absurd h (by simp)⟩
def wk1 : QI := ⟨7, [97, 98], [99, 100, 101, 102]⟩
def wk2 : QI := ⟨7, [97, 98], [102]⟩
set_option maxRecDepth 100000 in
set_option maxHeartbeats 3200000 in
theorem awake18_any (w : World) : Calls Try.prog 31 #[] w fun e w' => e = .returned (.bool true) ∧ Below w.heap.size w w' := by
  have kc : ∀ (w : World) (C : Array Value) (n c : Nat), (convert 55 55 (.slice (some ⟨w.heap.size, 0, none⟩) n c)).run Try.prog (w.alloc (.cells C 5)) = .ok (.slice (some ⟨w.heap.size, 0, none⟩) n c) (w.alloc (.cells C 5 (C.size, C.size + 1))) := fun w C n c => Lib.run_convert_bytes_const w _ _ C n c Try.underlying55 Try.underlying5
  have kc2 : ∀ (w : World) (o : Obj) (C : Array Value) (n c : Nat), (convert 55 55 (.slice (some ⟨w.heap.size + 1, 0, none⟩) n c)).run Try.prog ((w.alloc o).alloc (.cells C 5)) = .ok (.slice (some ⟨w.heap.size + 1, 0, none⟩) n c) ((w.alloc o).alloc (.cells C 5 (C.size, C.size + 1))) := fun w o C n c => Go.Joins.run_convert_bytes_const_at _ _ _ C n c _ (by simp) Try.underlying55 Try.underlying5
  go_enter Try.func31, Try.ntmps31
  go_wp2_with fail
  refine (new_yes 2 10 5 w ⟨by omega, by omega, by omega⟩).mono ?_
  rintro r w1 ⟨q, bl, tg, rfl, hq, htg, hb⟩
  have HQ1 : Hid (QRep tg w1 q bl 2 10 5 (fun _ => [])) := hq
  have HTG : Hid (∀ k, k < w.heap.size → tg k = 0) := fun k hk => by
    by_cases e : tg k = 0
    · exact e
    · have := htg k e; omega
  have HB1 := Lib.hid hb
  clear hq htg hb
  go_wp2_with fail
  obtain ⟨W2, hW2⟩ : ∃ W2, W2 = (w1.alloc (.cells #[.int .u8 97, .int .u8 98] 5 (2, 3))).alloc (.cells #[.int .u8 99, .int .u8 100, .int .u8 101, .int .u8 102] 5 (4, 5)) := ⟨_, rfl⟩
  rw [← hW2]
  have hF2 : Frm NoS w1 W2 := by rw [hW2]; exact Frm.alloc (Frm.alloc (Frm.refl _ _) _) _
  have hbh : BytesIn (fun _ => True) W2 (.slice (some ⟨w1.heap.size, 0, none⟩) 2 2) wk1.h := BytesIn.lit rfl (by omega) (fun j x hj => by
    rw [hW2, World.cell?_alloc_lt _ _ _ (by simp), Go.Joins.cell_alloc_mark_at _ _ _ _ _ _ rfl]
    rcases j with _ | _ | j <;> simp [wk1] at hj <;> subst hj <;> rfl)
  have hbb : BytesIn (fun _ => True) W2 (.slice (some ⟨w1.heap.size + 1, 0, none⟩) 4 4) wk1.b := BytesIn.lit rfl (by omega) (fun j x hj => by
    rw [hW2, Go.Joins.cell_alloc_mark_at _ _ _ _ _ _ (by simp)]
    rcases j with _ | _ | _ | _ | j <;> simp [wk1] at hj <;> subst hj <;> rfl)
  refine (put_yes 1 wk1 W2 (HQ1.out.frm hF2 (fun _ _ _ h => h)) hbh hbb (by omega) (by omega) (by simp) (by decide)).mono ?_
  rintro r w3 ⟨tg3, rfl, hq3, ht3, hf3⟩
  have HF3 : Hid (Frm NoS w w3) := ((Frm.of_below HB1.out).trans (hF2.mono (fun _ _ _ h => h)) |>.then_ hf3 (fun b j hb hS => by have := HTG.out b hb; omega))
  have HQ3 : Hid (QRep tg3 w3 q bl 2 10 5 (upd (fun _ => []) 1 [wk1])) := hq3.congr (fun t _ => by unfold upd; by_cases h : t = 1 <;> simp [h])
  have HTG3 : Hid (∀ k, k < w.heap.size → tg3 k = 0) := fun k hk => (ht3 k (by have := HB1.out.size; have := hF2.size; omega)).trans (HTG.out k hk)
  clear HQ1 HTG HB1 hF2 hbh hbb hq3 ht3 hf3
  clear hW2
  go_wp2_with fail
  refine (put_quota none (some ⟨w3.heap.size, 0, none⟩) 0 0 5 5 0 1 _ (HQ3.out.frm (Frm.alloc (Frm.refl NoS _) _) (fun _ _ _ h => h)) (by omega) (by omega) (by omega) (by omega) (Or.inr (by decide))).mono ?_
  rintro r w4 ⟨rfl, hb4⟩
  have HF34 : Hid (Frm NoS w3 w4) := (Frm.alloc (Frm.refl NoS _) _).trans (Frm.of_below hb4)
  clear hb4
  go_wp2_with fail
  refine (put_range none none 0 0 0 0 0 2 w4 (HQ3.out.frm HF34.out (fun _ _ _ h => h)) (Or.inr (by omega))).mono ?_
  rintro r w5 ⟨rfl, hb5⟩
  have HF35 : Hid (Frm NoS w3 w5) := HF34.out.trans (Frm.of_below hb5)
  clear hb5 HF34
  go_wp2_with fail
  refine (cut_yes 1 3 wk1 [] w5 (HQ3.out.frm HF35.out (fun _ _ _ h => h)) (by simp [mAt, upd]) (by decide)).mono ?_
  rintro r w6 ⟨v6, rfl, hb6, ⟨A6, c6, rfl⟩, hq6, hf6⟩
  have HB6 : Hid (BytesIn (fun k => w5.heap.size ≤ k ∧ k < w6.heap.size) w6 (.slice A6 3 c6) [99, 100, 101]) := hb6
  have HQ6 : Hid (QRep tg3 w6 q bl 2 10 5 (upd (fun _ => []) 1 [wk2])) := hq6.congr (fun t _ => by unfold upd; by_cases h : t = 1 <;> simp [h, wk1, wk2])
  have HF6 : Hid (Frm NoS w w6) := (HF3.out.trans (HF35.out)).then_ hf6 (fun b j hb hS => by have := HTG3.out b hb; unfold LineS at hS; omega)
  have HZ6 : Hid (∀ k, w5.heap.size ≤ k → tg3 k = 0) := fun k hk => by
    by_cases e : tg3 k = 0
    · exact e
    · have := HQ3.out.lt k e; have := HF35.out.size; omega
  clear hb6 hq6 hf6 HQ3 HF3 HF35
  go_wp2_with fail
  refine (pop_yes 1 wk2 [] w6 HQ6.out (by simp [mAt, upd])).mono ?_
  rintro r w7 ⟨hv, bv, rfl, ⟨hv', bv', he, hi1, hi2⟩, ⟨A7, c7, rfl⟩, ⟨A8, c8, rfl⟩, hq7, hf7⟩
  simp only [List.cons.injEq, and_true, true_and] at he
  obtain ⟨rfl, rfl⟩ := he
  rw [show min 3 wk1.b.length = 3 from rfl, show wk2.h.length = 2 from rfl, show wk2.b.length = 1 from rfl, show wk2.num = 7 from rfl]
  have hF8 : Frm NoS w7 (w7.alloc (.cells #[.int .i64 7, .slice A7 2 c7, .slice A8 1 c8] 57)) := Frm.alloc (Frm.refl _ _) _
  have hq8 : QRep tg3 (w7.alloc (.cells #[.int .i64 7, .slice A7 2 c7, .slice A8 1 c8] 57)) q bl 2 10 5 (fun _ => []) := (hq7.congr (fun t _ => by unfold upd; by_cases h : t = 1 <;> simp [h])).frm hF8 (fun _ _ _ h => h)
  have hs1 : BytesIn (fun k => w5.heap.size ≤ k ∧ k < w6.heap.size) (w7.alloc (.cells #[.int .i64 7, .slice A7 2 c7, .slice A8 1 c8] 57)) (.slice A6 3 c6) [99, 100, 101] := (HB6.out.frm hf7 (fun k j hk hS => by have := HZ6.out k hk.1; unfold LineS at hS; omega)).frm hF8 (fun _ _ _ h => h)
  have hs2 : BytesIn (fun k => w6.heap.size ≤ k ∧ k < w7.heap.size) (w7.alloc (.cells #[.int .i64 7, .slice A7 2 c7, .slice A8 1 c8] 57)) (.slice A8 1 c8) [102] := hi2.frm hF8 (fun _ _ _ h => h)
  have S1 := str_of hs1
  have S2 := str_of hs2
  have HLn := Lib.hid (len_any 1 _ hq8)
  have HBy := Lib.hid (bytes_any 1 _ hq8)
  rw [show mAt (fun _ => []) 2 1 = [] from by simp [mAt]] at HLn HBy
  have HF7 : Hid (Frm NoS w w7) := HF6.out.then_ hf7 (fun b j hb hS => by have := HTG3.out b hb; unfold LineS at hS; omega)
  clear hF8 hq8 hs1 hs2 hq7 hf7 hi1 hi2 HF6 HB6 HQ6 HZ6 HTG3 kc kc2
  go_wp2_with (first | (go_at_call 42; refine HBy.out.mono ?_; rintro r w' ⟨rfl, rfl⟩) | (go_at_call 39; refine HLn.out.mono ?_; rintro r w' ⟨rfl, rfl⟩))
  go_ret
  exact ⟨rfl, (HF7.out.alloc _).no⟩
end Go.Proofs.Ytpihldeikdiniaa
