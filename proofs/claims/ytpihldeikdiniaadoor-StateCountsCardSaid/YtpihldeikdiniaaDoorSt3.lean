/- The contracts of package state: a run in memory: NewRun, At, Count, Do. -/
import Derived.Test.YtpihldeikdiniaaDoorSt2
import Derived.RegionTactic
namespace Go.Proofs.YtpihldeikdiniaaDoor
open Go.RowKit
set_option linter.unusedVariables false
set_option linter.unusedSimpArgs false
/-- A run lies at offset o of block b: its state, and nine counts behind it. -/
structure RunAt (w : World) (b o : Nat) (s : Int) (c : List Int) : Prop where
  len : c.length = 9
  at_ : w.cell? ⟨b, o, none⟩ = some (.int .i64 s)
  cnt : ∀ i, i < 9 → w.cell? ⟨b, o + 1 + i, none⟩ = some (.int .i64 (c[i]?.getD 0))
  fz : ∀ i, i < 10 → w.frozen? ⟨b, o + i, none⟩ = false
theorem RunAt.lt {w : World} {b o : Nat} {s : Int} {c : List Int} (h : RunAt w b o s c) : b < w.heap.size := World.block_lt_of_cell? w _ h.at_
theorem RunAt.alloc {w : World} {b o : Nat} {s : Int} {c : List Int} (h : RunAt w b o s c) (x : Obj) : RunAt (w.alloc x) b o s c :=
  ⟨h.len, (World.cell?_alloc_lt w _ _ h.lt).trans h.at_, fun i hi => (World.cell?_alloc_lt w _ _ h.lt).trans (h.cnt i hi), fun i hi => (World.frozen?_alloc_old w _ _ (Nat.ne_of_lt h.lt)).trans (h.fz i hi)⟩
theorem RunAt.drew {w : World} {b o : Nat} {s : Int} {c : List Int} (h : RunAt w b o s c) : RunAt w.drew b o s c := ⟨h.len, h.at_, h.cnt, h.fz⟩
theorem RunAt.drewN {w : World} {b o : Nat} {s : Int} {c : List Int} (h : RunAt w b o s c) (n : Nat) : RunAt (w.drewN n) b o s c := ⟨h.len, h.at_, h.cnt, h.fz⟩
theorem RunAt.setAt {w : World} {b o : Nat} {s : Int} {c : List Int} (h : RunAt w b o s c) (s' : Int) : RunAt (w.setCell ⟨b, o, none⟩ (.int .i64 s')) b o s' c :=
  ⟨h.len, World.cell?_setCell_same w _ _ h.at_, fun i hi => (World.cell?_setCell_other w _ _ _ (by simp <;> omega)).trans (h.cnt i hi), fun i hi => (World.frozen?_setCell w _ _ _).trans (h.fz i hi)⟩
theorem RunAt.setCnt {w : World} {b o : Nat} {s : Int} {c : List Int} (h : RunAt w b o s c) {i : Nat} (hi : i < 9) (v : Int) : RunAt (w.setCell ⟨b, o + 1 + i, none⟩ (.int .i64 v)) b o s (c.set i v) :=
  ⟨by simpa using h.len, (World.cell?_setCell_other w _ _ _ (by simp <;> omega)).trans h.at_, fun j hj => by
    by_cases e : i = j
    · subst e
      rw [World.cell?_setCell_same w _ _ (h.cnt i hi)]
      simp [List.getElem?_set, h.len, hi]
    · rw [World.cell?_setCell_other w _ _ _ (by simp <;> omega), h.cnt j hj]
      simp [List.getElem?_set, e], fun i hi => (World.frozen?_setCell w _ _ _).trans (h.fz i hi)⟩
def RunS (b o : Nat) : Nat → Nat → Prop := fun k j => k = b ∧ o ≤ j ∧ j < o + 10
theorem runS {b o j : Nat} (h1 : o ≤ j) (h2 : j < o + 10) : RunS b o b j := ⟨rfl, h1, h2⟩
theorem RunAt.frm {w w' : World} {b o : Nat} {s : Int} {c : List Int} {S : Nat → Nat → Prop} (h : RunAt w b o s c) (hf : Frm S w w') (hn : ∀ j, o ≤ j → j < o + 10 → ¬ S b j) : RunAt w' b o s c :=
  ⟨h.len, hf.keep h.at_ (hn o (by omega) (by omega)), fun i hi => hf.keep (h.cnt i hi) (hn _ (by show o ≤ o + 1 + i; omega) (by show o + 1 + i < o + 10; omega)),
    fun i hi => (hf.frozen (p := ⟨b, o + i, none⟩) h.lt).trans (h.fz i hi)⟩
theorem TabOK.frm {w w' : World} {S : Nat → Nat → Prop} (h : TabOK w) (hf : Frm S w w') (hn : ∀ j, ¬ S 0 j) : TabOK w' :=
  ⟨Nat.lt_of_lt_of_le h.1 hf.size, fun i hi => hf.keep (h.2 i hi) (hn i)⟩
/-- What Do answers: the error, the fault, the state then, the counts then. -/
def doF (s : Int) (c : List Int) (e : Int) : Int × (Int × Bool) × Int × List Int :=
  if sendsB e then
    if (sendF s e).2 = 0 then (0, (0, false), (sendF s e).1, c.set e.toNat (wrap64 (c[e.toNat]?.getD 0 + 1)))
    else ((sendF s e).2, (0, false), s, c)
  else if getsB e then
    (0, (getF s e).2, (getF s e).1, if (getF s e).2 = (0, false) then c.set e.toNat (wrap64 (c[e.toNat]?.getD 0 + 1)) else c)
  else (11, (0, false), s, c)
set_option maxHeartbeats 400000 in
theorem newrun_any (w : World) :
    Calls Tryd.prog 11 #[] w fun r w' => ∃ b, r = .returned (.pointer (some ⟨b, 0, none⟩)) ∧ w.heap.size ≤ b ∧ RunAt w' b 0 0 (List.replicate 9 0) ∧ Below w.heap.size w w' := by
  go_enter Tryd.func11, Tryd.ntmps11
  go_wp2
  go_ret
  refine ⟨w.heap.size, rfl, Nat.le_refl _, ⟨rfl, ?_, ?_, ?_⟩, bl_alloc (Below.refl _ _) _⟩
  · simp
  · intro i hi
    simp only [World.cell?_alloc_new]
    match i, hi with
    | 0, _ => rfl
    | 1, _ => rfl
    | 2, _ => rfl
    | 3, _ => rfl
    | 4, _ => rfl
    | 5, _ => rfl
    | 6, _ => rfl
    | 7, _ => rfl
    | 8, _ => rfl
  · intro i hi; simp
set_option maxHeartbeats 400000 in
theorem at_any (b o : Nat) (s : Int) (c : List Int) (w : World) (hr : RunAt w b o s c) :
    Calls Tryd.prog 18 #[.pointer (some ⟨b, o, none⟩)] w fun r w' => r = .returned (.int .i64 s) ∧ w = w' := by
  have h := hr.at_
  clear hr
  go_enter Tryd.func18, Tryd.ntmps18
  go_wp2
  go_ret
  exact ⟨rfl, rfl⟩
def cntF (c : List Int) (e : Int) : Int := if 0 ≤ e ∧ e < 9 then c[e.toNat]?.getD 0 else 0
set_option maxHeartbeats 400000 in
theorem count_any (b o : Nat) (s : Int) (c : List Int) (e : Int) (w : World) (hr : RunAt w b o s c) :
    Calls Tryd.prog 16 #[.pointer (some ⟨b, o, none⟩), .int .i64 e] w fun r w' => r = .returned (.int .i64 (cntF c e)) ∧ w = w' := by
  by_cases h0 : 0 ≤ e
  · by_cases h9 : e < 9
    · have h := hr.cnt e.toNat (by omega)
      have hf : cntF c e = c[e.toNat]?.getD 0 := by simp [cntF, h0, h9]
      rw [hf]
      generalize c[e.toNat]?.getD 0 = x at *
      clear hr hf
      go_enter Tryd.func16, Tryd.ntmps16
      go_wp2
      go_ret
      exact ⟨rfl, rfl⟩
    · have hf : cntF c e = 0 := by simp [cntF, h9]
      rw [hf]
      clear hr hf
      go_enter Tryd.func16, Tryd.ntmps16
      go_wp2
      go_ret
      exact ⟨rfl, rfl⟩
  · have hf : cntF c e = 0 := by simp [cntF, h0]
    rw [hf]
    clear hr hf
    go_enter Tryd.func16, Tryd.ntmps16
    go_wp2
    go_ret
    exact ⟨rfl, rfl⟩
set_option maxHeartbeats 1000000 in
theorem do_range (b o : Nat) (s : Int) (c : List Int) (e : Int) (w : World) (hr : RunAt w b o s c) (h1 : sendsB e = false) (h2 : getsB e = false) :
    Calls Tryd.prog 14 #[.pointer (some ⟨b, o, none⟩), .int .i64 e] w fun r w' => r = .returned (.tuple #[.int .i64 11, .agg #[.int .i64 0, .bool false]]) ∧ RunAt w' b o s c ∧ Frm (RunS b o) w w' := by
  have HR := Lib.hid hr
  clear hr
  go_enter Tryd.func14, Tryd.ntmps14
  go_wp2_with (first | (go_at_call 39; refine (sends_any _ _).mono ?_; rintro r w' ⟨rfl, rfl⟩) | (go_at_call 40; refine (gets_any _ _).mono ?_; rintro r w' ⟨rfl, rfl⟩))
  have hb : Below w.heap.size w (w.alloc (.cells #[.int .i64 0, .bool false] 33)) := bl_alloc (Below.refl _ _) _
  exact bodyPost_ret (v := .tuple #[.int .i64 11, .agg #[.int .i64 0, .bool false]]) (by simp [results, Tryd.results14, go_sem]) rfl ⟨rfl, HR.out.frm (Frm.of_below (S := NoS) hb) (fun _ _ _ h => h), Frm.of_below hb⟩
set_option maxHeartbeats 1000000 in
theorem do_send (b o : Nat) (s : Int) (c : List Int) (e : Int) (w : World) (hr : RunAt w b o s c) (ht : TabOK w) (h1 : sendsB e = true) (h3 : (sendF s e).2 = 0) :
    Calls Tryd.prog 14 #[.pointer (some ⟨b, o, none⟩), .int .i64 e] w fun r w' => r = .returned (.tuple #[.int .i64 0, .agg #[.int .i64 0, .bool false]]) ∧ RunAt w' b o (sendF s e).1 (c.set e.toNat (wrap64 (c[e.toNat]?.getD 0 + 1))) ∧ Frm (RunS b o) w w' := by
  have b2 : 0 ≤ e ∧ e ≤ 3 := by simpa [sendsB] using h1
  obtain ⟨b2, b4⟩ := b2
  have hlt := hr.lt
  obtain ⟨⟨hne, hne1, hne2, hne3, hne4, hne5⟩, hlt1, hlt2, hlt3, hlt4, hlt5⟩ := ne_new hlt
  have hc0 := hr.at_
  have hc1 := hr.cnt e.toNat (by omega)
  have hf0 := hr.fz 0 (by omega)
  have hf1 := hr.fz (1 + e.toNat) (by omega)
  rw [← Nat.add_assoc] at hf1
  rw [Nat.add_zero] at hf0
  have HS := Lib.hid (send_any s e)
  have HT := Lib.hid ht
  have HR := Lib.hid hr
  have H3 := Lib.hid h3
  clear hr ht h3
  go_enter Tryd.func14, Tryd.ntmps14
  go_wp2_with (first | (go_at_call 39; refine (sends_any _ _).mono ?_; rintro r w' ⟨rfl, rfl⟩) | (go_at_call 21; refine (HS.out _ (HT.out.frm (Frm.of_below (S := NoS) (bl_alloc (Below.refl _ _) _)) (fun _ h => h))).mono ?_; rw [H3.out]; rintro r w' ⟨rfl, rfl⟩))
  go_region
  go_wp2
  refine bodyPost_ret (v := .tuple #[.int .i64 0, .agg #[.int .i64 0, .bool false]]) (by simp [results, Tryd.results14, go_sem]) rfl ⟨rfl, ?_, ?_⟩
  · repeat (first | exact HR.out | apply RunAt.alloc | apply RunAt.drew | apply RunAt.setAt | refine RunAt.setCnt ?_ (by omega) _)
  · repeat (first | exact Frm.refl _ _ | apply Frm.alloc | apply Frm.drew | refine Frm.set_old ?_ (by refine ⟨rfl, ?_, ?_⟩ <;> simp <;> omega) _)

set_option maxHeartbeats 1000000 in
theorem do_send_no (b o : Nat) (s : Int) (c : List Int) (e : Int) (w : World) (hr : RunAt w b o s c) (ht : TabOK w) (h1 : sendsB e = true) (h3 : ¬ (sendF s e).2 = 0) :
    Calls Tryd.prog 14 #[.pointer (some ⟨b, o, none⟩), .int .i64 e] w fun r w' => r = .returned (.tuple #[.int .i64 (sendF s e).2, .agg #[.int .i64 0, .bool false]]) ∧ RunAt w' b o s c ∧ Frm (RunS b o) w w' := by
  have hlt := hr.lt
  obtain ⟨⟨hne, hne1, hne2, hne3, hne4, hne5⟩, hlt1, hlt2, hlt3, hlt4, hlt5⟩ := ne_new hlt
  have hc0 := hr.at_
  have HS := Lib.hid (send_any s e)
  have HT := Lib.hid ht
  have HR := Lib.hid hr
  clear hr ht
  generalize sendF s e = q at *
  obtain ⟨q1, q2⟩ := q
  go_enter Tryd.func14, Tryd.ntmps14
  go_wp2_with (first | (go_at_call 39; refine (sends_any _ _).mono ?_; rintro r w' ⟨rfl, rfl⟩) | (go_at_call 21; refine (HS.out _ (HT.out.frm (Frm.of_below (S := NoS) (bl_alloc (Below.refl _ _) _)) (fun _ h => h))).mono ?_; rintro r w' ⟨rfl, rfl⟩))
  have hb : Below w.heap.size w (w.alloc (.cells #[.int .i64 0, .bool false] 33)) := bl_alloc (Below.refl _ _) _
  exact bodyPost_ret (v := .tuple #[.int .i64 q2, .agg #[.int .i64 0, .bool false]]) (by simp [results, Tryd.results14, go_sem]) rfl ⟨rfl, HR.out.frm (Frm.of_below (S := NoS) hb) (fun _ _ _ h => h), Frm.of_below hb⟩
set_option maxHeartbeats 1000000 in
theorem do_get_no (b o : Nat) (s : Int) (c : List Int) (e : Int) (w : World) (hr : RunAt w b o s c) (ht : TabOK w) (h1 : sendsB e = false) (h2 : getsB e = true) (h3 : ((getF s e).2.1 == 0 && !(getF s e).2.2) = false) :
    Calls Tryd.prog 14 #[.pointer (some ⟨b, o, none⟩), .int .i64 e] w fun r w' => r = .returned (.tuple #[.int .i64 0, .agg #[.int .i64 (getF s e).2.1, .bool (getF s e).2.2]]) ∧ RunAt w' b o (getF s e).1 c ∧ Frm (RunS b o) w w' := by
  have hlt := hr.lt
  obtain ⟨⟨hne, hne1, hne2, hne3, hne4, hne5⟩, hlt1, hlt2, hlt3, hlt4, hlt5⟩ := ne_new hlt
  have hc0 := hr.at_
  have hf0 := hr.fz 0 (by omega)
  rw [Nat.add_zero] at hf0
  have HS := Lib.hid (get_any s e)
  have HT := Lib.hid ht
  have HR := Lib.hid hr
  clear hr ht
  generalize getF s e = q at *
  obtain ⟨q1, q2, q3⟩ := q
  have H3 := Lib.hid h3
  clear h3
  go_enter Tryd.func14, Tryd.ntmps14
  go_wp2_with (first | (go_at_call 39; refine (sends_any _ _).mono ?_; rintro r w' ⟨rfl, rfl⟩) | (go_at_call 40; refine (gets_any _ _).mono ?_; rintro r w' ⟨rfl, rfl⟩) | (go_at_call 22; refine (HS.out _ (HT.out.frm (Frm.of_below (S := NoS) (bl_alloc (Below.refl _ _) _)) (fun _ h => h))).mono ?_; rintro r w1 ⟨rfl, rfl⟩) | (go_at_call 15; refine (ok_any _ _ _).mono ?_; rw [H3.out]; rintro r w2 ⟨rfl, rfl⟩))
  go_region
  all_goals
    go_wp2
    refine bodyPost_ret (v := .tuple #[.int .i64 0, .agg #[.int .i64 q2, .bool q3]]) (by simp [results, Tryd.results14, go_sem]) rfl ⟨rfl, ?_, ?_⟩
    · repeat (first | exact HR.out | apply RunAt.alloc | apply RunAt.drew | apply RunAt.setAt | refine RunAt.setCnt ?_ (by omega) _ | refine RunAt.frm ?_ (Frm.set_new (S := NoS) (Frm.refl _ _) (by simp) _) (fun _ _ _ h => h))
    · repeat (first | exact Frm.refl _ _ | apply Frm.alloc | apply Frm.drew | refine Frm.set_old ?_ (by refine ⟨rfl, ?_, ?_⟩ <;> simp <;> omega) _ | refine Frm.set_new ?_ (by simp) _)
set_option maxHeartbeats 1000000 in
theorem do_get_yes (b o : Nat) (s : Int) (c : List Int) (e : Int) (w : World) (hr : RunAt w b o s c) (ht : TabOK w) (h1 : sendsB e = false) (h2 : getsB e = true) (h3 : ((getF s e).2.1 == 0 && !(getF s e).2.2) = true) :
    Calls Tryd.prog 14 #[.pointer (some ⟨b, o, none⟩), .int .i64 e] w fun r w' => r = .returned (.tuple #[.int .i64 0, .agg #[.int .i64 (getF s e).2.1, .bool (getF s e).2.2]]) ∧ RunAt w' b o (getF s e).1 (c.set e.toNat (wrap64 (c[e.toNat]?.getD 0 + 1))) ∧ Frm (RunS b o) w w' := by
  have hlt := hr.lt
  obtain ⟨⟨hne, hne1, hne2, hne3, hne4, hne5⟩, hlt1, hlt2, hlt3, hlt4, hlt5⟩ := ne_new hlt
  have hc0 := hr.at_
  have hf0 := hr.fz 0 (by omega)
  rw [Nat.add_zero] at hf0
  have b2 : 3 < e ∧ e < 9 := by simpa [getsB] using h2
  obtain ⟨b2, b4⟩ := b2
  have hc1 := hr.cnt e.toNat (by omega)
  have hf1 := hr.fz (1 + e.toNat) (by omega)
  rw [← Nat.add_assoc] at hf1
  have HS := Lib.hid (get_any s e)
  have HT := Lib.hid ht
  have HR := Lib.hid hr
  clear hr ht
  generalize getF s e = q at *
  obtain ⟨q1, q2, q3⟩ := q
  have H3 := Lib.hid h3
  clear h3
  go_enter Tryd.func14, Tryd.ntmps14
  go_wp2_with (first | (go_at_call 39; refine (sends_any _ _).mono ?_; rintro r w' ⟨rfl, rfl⟩) | (go_at_call 40; refine (gets_any _ _).mono ?_; rintro r w' ⟨rfl, rfl⟩) | (go_at_call 22; refine (HS.out _ (HT.out.frm (Frm.of_below (S := NoS) (bl_alloc (Below.refl _ _) _)) (fun _ h => h))).mono ?_; rintro r w1 ⟨rfl, rfl⟩) | (go_at_call 15; refine (ok_any _ _ _).mono ?_; rw [H3.out]; rintro r w2 ⟨rfl, rfl⟩))
  go_region
  go_wp2
  go_region
  all_goals
    go_wp2
    refine bodyPost_ret (v := .tuple #[.int .i64 0, .agg #[.int .i64 q2, .bool q3]]) (by simp [results, Tryd.results14, go_sem]) rfl ⟨rfl, ?_, ?_⟩
    · repeat (first | exact HR.out | apply RunAt.alloc | apply RunAt.drew | apply RunAt.setAt | refine RunAt.setCnt ?_ (by omega) _ | refine RunAt.frm ?_ (Frm.set_new (S := NoS) (Frm.refl _ _) (by simp) _) (fun _ _ _ h => h))
    · repeat (first | exact Frm.refl _ _ | apply Frm.alloc | apply Frm.drew | refine Frm.set_old ?_ (by refine ⟨rfl, ?_, ?_⟩ <;> simp <;> omega) _ | refine Frm.set_new ?_ (by simp) _)
/-- Do, of any event. -/
theorem do_any (b o : Nat) (s : Int) (c : List Int) (e : Int) (w : World) (hr : RunAt w b o s c) (ht : TabOK w) :
    Calls Tryd.prog 14 #[.pointer (some ⟨b, o, none⟩), .int .i64 e] w fun r w' => r = .returned (.tuple #[.int .i64 (doF s c e).1, .agg #[.int .i64 (doF s c e).2.1.1, .bool (doF s c e).2.1.2]]) ∧ RunAt w' b o (doF s c e).2.2.1 (doF s c e).2.2.2 ∧ Frm (RunS b o) w w' := by
  unfold doF
  cases h1 : sendsB e with
  | true =>
    by_cases h3 : (sendF s e).2 = 0
    · simpa [h3] using do_send b o s c e w hr ht h1 h3
    · simpa [h3] using do_send_no b o s c e w hr ht h1 h3
  | false =>
    cases h2 : getsB e with
    | false => simpa using do_range b o s c e w hr h1 h2
    | true =>
      cases h3 : ((getF s e).2.1 == 0 && !(getF s e).2.2) with
      | true =>
        have hq : (getF s e).2 = (0, false) := by
          have : (getF s e).2.1 = 0 ∧ (getF s e).2.2 = false := by simpa using h3
          exact Prod.ext this.1 this.2
        have := do_get_yes b o s c e w hr ht h1 h2 h3
        simpa [hq] using this
      | false =>
        have hq : ¬ (getF s e).2 = (0, false) := by
          intro e1; rw [e1] at h3; simp at h3
        have := do_get_no b o s c e w hr ht h1 h2 h3
        simpa [hq] using this
end Go.Proofs.YtpihldeikdiniaaDoor
