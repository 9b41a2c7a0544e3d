/- StateEnds: the walk. -/
import Derived.Test.YtpihldeikdiniaaDoorSt8
namespace Go.Proofs.YtpihldeikdiniaaDoor
open Go.RowKit
set_option linter.unusedVariables false
set_option linter.unusedSimpArgs false
/-- Of a run's counts and its state: at most one end of each side, and nothing behind it. -/
structure EInv (s : Int) (c : List Int) : Prop where
  st : 0 ≤ s ∧ s < 5
  len : c.length = 9
  o : c[2]?.getD 0 = 0 ∨ c[2]?.getD 0 = 1 ∧ (s = 3 ∨ s = 4)
  t : c[6]?.getD 0 = 0 ∨ c[6]?.getD 0 = 1 ∧ (s = 2 ∨ s = 4)
  r : c[3]?.getD 0 = 0 ∨ c[3]?.getD 0 = 1 ∧ s = 4
def bump (c : List Int) (i : Nat) : List Int := c.set i (wrap64 (c[i]?.getD 0 + 1))
theorem bump_at {c : List Int} {i : Nat} (hl : c.length = 9) (hi : i < 9) (h : c[i]?.getD 0 = 0) : (bump c i)[i]?.getD 0 = 1 := by
  unfold bump
  rw [h, List.getElem?_set_self (by omega)]
  decide +kernel
theorem bump_ne {c : List Int} {i j : Nat} (h : i ≠ j) : (bump c i)[j]? = c[j]? := by
  unfold bump
  rw [List.getElem?_set_ne h]
/-- One event more. -/
theorem EInv.step {s e : Int} {c : List Int} (h : EInv s c) : EInv (nxtF s e) (if mayB s e = true then bump c e.toNat else c) := by
  have hk := evOK s e h.st.1 h.st.2
  cases hm : mayB s e with
  | false =>
    simp only [Bool.false_eq_true, if_false]
    exact ⟨hk.st, h.len, h.o.imp id (fun q => ⟨q.1, (hk.ours q.2).1⟩), h.t.imp id (fun q => ⟨q.1, (hk.theirs q.2).1⟩), h.r.imp id (fun q => ⟨q.1, hk.closed q.2⟩)⟩
  | true =>
    simp only [if_true]
    have hr := hk.inr hm
    refine ⟨hk.st, by simpa [bump] using h.len, ?_, ?_, ?_⟩
    · by_cases e2 : e = 2
      · subst e2
        rcases h.o with q | q
        · exact .inr ⟨bump_at h.len (by decide) q, hk.end2 hm rfl⟩
        · exact absurd ⟨by decide, by decide⟩ ((hk.ours q.2).2 hm)
      · rw [bump_ne (by omega)]
        exact h.o.imp id (fun q => ⟨q.1, (hk.ours q.2).1⟩)
    · by_cases e2 : e = 6
      · subst e2
        rcases h.t with q | q
        · exact .inr ⟨bump_at h.len (by decide) q, hk.end6 hm rfl⟩
        · exact absurd ⟨by decide, by decide⟩ ((hk.theirs q.2).2 hm)
      · rw [bump_ne (by omega)]
        exact h.t.imp id (fun q => ⟨q.1, (hk.theirs q.2).1⟩)
    · by_cases e2 : e = 3
      · subst e2
        rcases h.r with q | q
        · exact .inr ⟨bump_at h.len (by decide) q, (hk.end3 hm rfl).1⟩
        · exact absurd q.2 (hk.end3 hm rfl).2
      · rw [bump_ne (by omega)]
        exact h.r.imp id (fun q => ⟨q.1, hk.closed q.2⟩)
/-- An end was seen: ahead of the event, or with it. -/
theorem EInv.bit {s e : Int} {c : List Int} (h : EInv s c) (i : Nat) (hi : i = 2 ∨ i = 6) : ((if mayB s e = true then bump c e.toNat else c)[i]?.getD 0 == 1) = ((c[i]?.getD 0 == 1) || (mayB s e && (e == (i : Int)))) := by
  have hk := evOK s e h.st.1 h.st.2
  cases hm : mayB s e with
  | false => simp
  | true =>
    have hr := hk.inr hm
    simp only [if_true, Bool.true_and]
    by_cases e2 : e = (i : Int)
    · have e3 : e.toNat = i := by omega
      have hz : c[i]?.getD 0 = 0 := by
        rcases hi with rfl | rfl
        · rcases h.o with q | q
          · exact q
          · exact absurd ⟨by omega, by omega⟩ ((hk.ours q.2).2 hm)
        · rcases h.t with q | q
          · exact q
          · exact absurd ⟨by omega, by omega⟩ ((hk.theirs q.2).2 hm)
      rw [e3, bump_at h.len (by omega) hz, hz]
      simp [e2]
    · rw [bump_ne (by omega)]
      simp [e2]
theorem EInv.zero : EInv 0 (List.replicate 9 0) := ⟨by decide, rfl, .inl rfl, .inl rfl, .inl rfl⟩
/-- Do, of a run in order. -/
theorem do_ev (b o : Nat) (s : Int) (c : List Int) (e : Int) (w : World) (hr : RunAt w b o s c) (ht : TabOK w) (hs : 0 ≤ s) (hs4 : s < 5) :
    Calls Tryd.prog 14 #[.pointer (some ⟨b, o, none⟩), .int .i64 e] w fun r w' => r = .returned (.tuple #[.int .i64 (errF s e), .agg #[.int .i64 (fltF s e).1, .bool (fltF s e).2]]) ∧ RunAt w' b o (nxtF s e) (if mayB s e = true then bump c e.toNat else c) ∧ Frm (RunS b o) w w' := by
  have := do_any b o s c e w hr ht
  rw [doF_eq hs hs4] at this
  exact this
/-- The loop's relation. -/
def EndsRel (w : World) (n rb : Nat) (i c o t : Value) (wr : World) : Prop :=
  ∃ (k : Nat) (s : Int) (cs : List Int), k ≤ n ∧ i = .int .i64 k ∧ EInv s cs ∧ c = .bool (s == 4) ∧ o = .bool (cs[2]?.getD 0 == 1) ∧ t = .bool (cs[6]?.getD 0 == 1) ∧ RunAt wr rb 0 s cs ∧ Below w.heap.size w wr
set_option maxRecDepth 100000 in
set_option maxHeartbeats 2000000 in
theorem ends_walk (A : Option Addr) (n cap : Nat) (zs : List Int) (w : World) (ht : TabOK w) (hz : IntsIn w A n zs) :
    Calls Tryd.prog 6 #[.slice A n cap] w fun r w' => r = .returned (.bool true) ∧ Below w.heap.size w w' := by
  have hw0 := ht.1
  have HT := Lib.hid ht
  have HZ := Lib.hid hz
  have hn := hz.2.1
  clear ht hz
  by_cases hbig : 200 < n
  · go_enter Tryd.func6, Tryd.ntmps6
    go_wp2_with fail
    refine (newrun_any _).mono ?_
    rintro r w1 ⟨rb, rfl, hrb, hr1, hb1⟩
    have HB1 := Lib.hid hb1
    have HT1 := Lib.hid (HT.out.bl hb1)
    clear hr1 hb1
    go_wp2_with (go_at_call 12; refine (awake_any _ HT1.out).mono ?_; rintro r w2 ⟨rfl, hb2⟩; have HB2 := Lib.hid hb2; clear hb2)
    go_ret
    exact ⟨rfl, bl_then HB1.out HB2.out⟩
  · go_enter Tryd.func6, Tryd.ntmps6
    go_wp2_with fail
    refine (newrun_any _).mono ?_
    rintro r w1 ⟨rb, rfl, hrb, hr1, hb1⟩
    have HB1 := Lib.hid hb1
    have HR1 := Lib.hid hr1
    clear hr1 hb1
    go_wp2_with fail
    go_loopw [27, 4, 5, 6] (fun i c o t wr => EndsRel w n rb i c o t wr) (fun i _ _ _ _ => n - (intOf i).toNat)
    case atStart => exact ⟨0, 0, List.replicate 9 0, Nat.zero_le _, rfl, EInv.zero, rfl, rfl, rfl, HR1.out, HB1.out⟩
    case round =>
      obtain ⟨k, s, cs, hk, rfl, hinv, rfl, rfl, rfl, hr, hb⟩ := hrel
      have HI := Lib.hid hinv
      have hs0 := hinv.st.1
      have hs5 := hinv.st.2
      by_cases hlt : k < n
      · obtain ⟨bz, oz, rfl, hc⟩ := HZ.out.2.2 (by omega)
        have hcell : wr.cell? ⟨bz, oz + k, none⟩ = some (.int .i64 (zs[k]?.getD 0)) := by
          have h1 := hc k hlt
          exact (hb.cell (World.block_lt_of_cell? w _ h1)).trans h1
        have hcl : w.heap.size ≤ rb := hrb
        generalize zs[k]?.getD 0 = e at hcell
        have hk2 := evOK s e hs0 hs5
        have HI2 := Lib.hid (hinv.step (e := e))
        have HO := Lib.hid (hinv.bit (e := e) 2 (.inl rfl))
        have HT2 := Lib.hid (hinv.bit (e := e) 6 (.inr rfl))
        have hd := do_ev rb 0 s cs e wr hr (HT.out.bl hb) hs0 hs5
        have hC : (s == 4) = true → nxtF s e = 4 := fun h => hk2.closed (by simpa using h)
        have hO : (cs[2]?.getD 0 == 1) = true → mayB s e = true → e < 0 ∨ 2 < e := fun h hm => by
          have h1 : cs[2]?.getD 0 = 1 := by simpa using h
          rcases hinv.o with q | q
          · omega
          · have := (hk2.ours q.2).2 hm
            omega
        have hT : (cs[6]?.getD 0 == 1) = true → mayB s e = true → e < 4 ∨ 6 < e := fun h hm => by
          have h1 : cs[6]?.getD 0 = 1 := by simpa using h
          rcases hinv.t with q | q
          · omega
          · have := (hk2.theirs q.2).2 hm
            omega
        have HB := Lib.hid hb
        clear hb hr hc hinv
        generalize (if mayB s e = true then bump cs e.toNat else cs) = cs' at *
        generalize (s == 4) = cB at *
        generalize (cs[2]?.getD 0 == 1) = oB at *
        generalize (cs[6]?.getD 0 == 1) = tB at *
        have hgood := hk2.good
        have hbad := hk2.bad
        clear hk2
        generalize nxtF s e = s' at *
        generalize fltF s e = fl at *
        generalize errF s e = er at *
        obtain ⟨fc, fk⟩ := fl
        cases hm : mayB s e with
        | true =>
          obtain ⟨rfl, hfl⟩ := hgood hm
          obtain ⟨rfl, rfl⟩ := Prod.mk.inj hfl
          rw [hm] at HO HT2
          have hO' := fun h => hO h hm
          have hT' := fun h => hT h hm
          have HD := Lib.hid hd
          clear hO hT hgood hbad hd hfl hm
          cases cB <;> cases oB <;> cases tB
          all_goals
            simp only [true_imp_iff, Bool.false_eq_true, false_imp_iff] at hC hO' hT'
            go_wp2_with (first | (go_at_call 14; refine HD.out.mono ?_; rintro r w2 ⟨rfl, hr2, hf2⟩; have HR2 := Lib.hid hr2; have HF2 := Lib.hid hf2; clear hr2 hf2) | (go_at_call 15; refine (ok_any _ _ _).mono ?_; rintro r w3 ⟨rfl, rfl⟩) | (go_at_call 18; refine (at_any _ _ _ _ _ (by repeat (first | exact HR2.out | apply RunAt.alloc))).mono ?_; rintro r w4 ⟨rfl, rfl⟩) | (go_at_call 24; refine (done_any _ _).mono ?_; rintro r w4 ⟨rfl, rfl⟩))
            all_goals
              go_roundw
              case rel => exact ⟨k + 1, s', cs', by omega, by go_num, HI2.out, by first | rfl | (rw [hC]; rfl), by rw [HO.out]; simp, by rw [HT2.out]; simp, by repeat (first | exact HR2.out | apply RunAt.alloc), by repeat (first | exact bl_run HB.out HF2.out hcl | apply bl_alloc)⟩
              case measure => simp [intOf]; omega
        | false =>
          have hbad' := hbad hm
          rw [hm] at HO HT2
          clear hO hT hgood hbad hm
          rcases hbad' with ⟨h1, hfl⟩ | ⟨rfl, hfl⟩
          · obtain ⟨rfl, rfl⟩ := Prod.mk.inj hfl
            have HD := Lib.hid hd
            clear hd hfl
            cases cB <;> cases oB <;> cases tB
            all_goals
              simp only [true_imp_iff, Bool.false_eq_true, false_imp_iff] at hC
              go_wp2_with (first | (go_at_call 14; refine HD.out.mono ?_; rintro r w2 ⟨rfl, hr2, hf2⟩; have HR2 := Lib.hid hr2; have HF2 := Lib.hid hf2; clear hr2 hf2) | (go_at_call 15; refine (ok_any _ _ _).mono ?_; rintro r w3 ⟨rfl, rfl⟩) | (go_at_call 18; refine (at_any _ _ _ _ _ (by repeat (first | exact HR2.out | apply RunAt.alloc))).mono ?_; rintro r w4 ⟨rfl, rfl⟩) | (go_at_call 24; refine (done_any _ _).mono ?_; rintro r w4 ⟨rfl, rfl⟩))
              all_goals
                go_roundw
                case rel => exact ⟨k + 1, s', cs', by omega, by go_num, HI2.out, by first | rfl | (rw [hC]; rfl), by rw [HO.out]; simp, by rw [HT2.out]; simp, by repeat (first | exact HR2.out | apply RunAt.alloc), by repeat (first | exact bl_run HB.out HF2.out hcl | apply bl_alloc)⟩
                case measure => simp [intOf]; omega
          · have HF := Lib.hid hfl
            have HD := Lib.hid hd
            clear hd hfl
            cases cB <;> cases oB <;> cases tB
            all_goals
              simp only [true_imp_iff, Bool.false_eq_true, false_imp_iff] at hC
              go_wp2_with (first | (go_at_call 14; refine HD.out.mono ?_; rintro r w2 ⟨rfl, hr2, hf2⟩; have HR2 := Lib.hid hr2; have HF2 := Lib.hid hf2; clear hr2 hf2) | (go_at_call 15; refine (ok_any _ _ _).mono ?_; rw [HF.out]; rintro r w3 ⟨rfl, rfl⟩) | (go_at_call 18; refine (at_any _ _ _ _ _ (by repeat (first | exact HR2.out | apply RunAt.alloc))).mono ?_; rintro r w4 ⟨rfl, rfl⟩) | (go_at_call 24; refine (done_any _ _).mono ?_; rintro r w4 ⟨rfl, rfl⟩))
              all_goals
                go_roundw
                case rel => exact ⟨k + 1, s', cs', by omega, by go_num, HI2.out, by first | rfl | (rw [hC]; rfl), by rw [HO.out]; simp, by rw [HT2.out]; simp, by repeat (first | exact HR2.out | apply RunAt.alloc), by repeat (first | exact bl_run HB.out HF2.out hcl | apply bl_alloc)⟩
                case measure => simp [intOf]; omega
      · obtain rfl : k = n := by omega
        have c2 : cntF cs 2 ≤ 1 := by
          show cs[2]?.getD 0 ≤ 1
          rcases hinv.o with q | q <;> omega
        have c6 : cntF cs 6 ≤ 1 := by
          show cs[6]?.getD 0 ≤ 1
          rcases hinv.t with q | q <;> omega
        have c3 : cntF cs 3 ≤ 1 := by
          show cs[3]?.getD 0 ≤ 1
          rcases hinv.r with q | q <;> omega
        have HR := Lib.hid hr
        have HTr := Lib.hid (HT.out.bl hb)
        have HB := Lib.hid hb
        clear hinv hb hr
        go_wp2_with (first | (go_at_call 16; refine (count_any _ _ _ _ _ _ HR.out).mono ?_; rintro r w4 ⟨rfl, rfl⟩) | (go_at_call 12; refine (awake_any _ HTr.out).mono ?_; rintro r w5 ⟨rfl, hb5⟩; have HB5 := Lib.hid hb5; clear hb5))
        go_ret
        exact ⟨rfl, bl_then HB.out HB5.out⟩
end Go.Proofs.YtpihldeikdiniaaDoor
