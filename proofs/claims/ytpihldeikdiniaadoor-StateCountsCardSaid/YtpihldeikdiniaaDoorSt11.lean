/- StateCounts: the walk. -/
import Derived.Test.YtpihldeikdiniaaDoorSt8
namespace Go.Proofs.YtpihldeikdiniaaDoor
open Go.RowKit
set_option linter.unusedVariables false
set_option linter.unusedSimpArgs false
def bump (c : List Int) (i : Nat) : List Int := c.set i (wrap64 (c[i]?.getD 0 + 1))
theorem do_ev (b o : Nat) (s : Int) (c : List Int) (e : Int) (w : World) (hr : RunAt w b o s c) (ht : TabOK w) (hs : 0 ≤ s) (hs4 : s < 5) :
    Calls Tryd.prog 14 #[.pointer (some ⟨b, o, none⟩), .int .i64 e] w fun r w' => r = .returned (.tuple #[.int .i64 (errF s e), .agg #[.int .i64 (fltF s e).1, .bool (fltF s e).2]]) ∧ RunAt w' b o (nxtF s e) (if mayB s e = true then bump c e.toNat else c) ∧ Frm (RunS b o) w w' := by
  have := do_any b o s c e w hr ht
  rw [doF_eq hs hs4] at this
  exact this
/-- A fault that is none of the stream's leaves the state. -/
theorem stays (s e : Int) (hs : 0 ≤ s) (hs4 : s < 5) (hm : mayB s e = false) (h : (fltF s e).1 ≠ 105) : nxtF s e = s := by
  by_cases he : 0 ≤ e ∧ e < 9
  · exact enumI (n := 5) (P := fun s => ∀ e, 0 ≤ e → e < 9 → mayB s e = false → (fltF s e).1 ≠ 105 → nxtF s e = s) (fun i e h0 h8 => enumI (n := 9) (P := fun e => mayB (i.val : Int) e = false → (fltF (i.val : Int) e).1 ≠ 105 → nxtF (i.val : Int) e = (i.val : Int))
      ((by decide +kernel : ∀ i : Fin 5, ∀ j : Fin 9, mayB (i.val : Int) (j.val : Int) = false → (fltF (i.val : Int) (j.val : Int)).1 ≠ 105 → nxtF (i.val : Int) (j.val : Int) = (i.val : Int)) i) e h0 h8) s hs hs4 e he.1 he.2 hm h
  · have h2 : sendsB e = false := by simp [sendsB]; omega
    have h3 : getsB e = false := by simp [getsB]; omega
    simp [nxtF, doF, h2, h3]
/-- The first j counts together. -/
def psum (c : List Int) : Nat → Int
  | 0 => 0
  | j + 1 => psum c j + c[j]?.getD 0
theorem psum_succ (c : List Int) (j : Nat) : psum c (j + 1) = psum c j + c[j]?.getD 0 := rfl
structure Cnt (c : List Int) (k : Nat) : Prop where
  len : c.length = 9
  pos : ∀ j : Nat, 0 ≤ c[j]?.getD 0
  sum : psum c 9 ≤ k
theorem psum_nn {c : List Int} (h : ∀ j : Nat, 0 ≤ c[j]?.getD 0) (j : Nat) : 0 ≤ psum c j := by
  induction j with
  | zero => exact Int.le_refl 0
  | succ j ih => have := h j; rw [psum_succ]; omega
theorem psum_mono {c : List Int} (h : ∀ j : Nat, 0 ≤ c[j]?.getD 0) {i j : Nat} (hij : i ≤ j) : psum c i ≤ psum c j := by
  induction j with
  | zero => have : i = 0 := by omega
            subst this; exact Int.le_refl _
  | succ j ih =>
    by_cases e : i = j + 1
    · subst e; exact Int.le_refl _
    · have := ih (by omega); have := h j; rw [psum_succ]; omega
theorem psum_at {c : List Int} (h : ∀ j : Nat, 0 ≤ c[j]?.getD 0) {i : Nat} (hi : i < 9) : c[i]?.getD 0 ≤ psum c 9 := by
  have h1 := psum_nn h i
  have h2 : psum c (i + 1) ≤ psum c 9 := psum_mono h (by omega)
  rw [psum_succ] at h2
  omega
theorem psum_bump {c : List Int} {i : Nat} (hl : c.length = 9) (hi : i < 9) (hw : wrap64 (c[i]?.getD 0 + 1) = c[i]?.getD 0 + 1) (j : Nat) : psum (bump c i) j = psum c j + (if i < j then 1 else 0) := by
  induction j with
  | zero => rfl
  | succ j ih =>
    show psum (bump c i) j + (bump c i)[j]?.getD 0 = psum c j + c[j]?.getD 0 + _
    rw [ih]
    unfold bump
    by_cases e : i = j
    · subst e
      rw [List.getElem?_set_self (by omega)]
      simp [hw]
      omega
    · rw [List.getElem?_set_ne e]
      by_cases h2 : i < j
      · rw [if_pos h2, if_pos (by omega)]; omega
      · rw [if_neg h2, if_neg (by omega)]; omega
theorem Cnt.wrap {c : List Int} {k i : Nat} (h : Cnt c k) (hk : k ≤ 200) (hi : i < 9) : wrap64 (c[i]?.getD 0 + 1) = c[i]?.getD 0 + 1 := by
  have h1 := h.pos i
  have h2 := psum_at h.pos hi
  have h3 := h.sum
  exact IntWalk.wrap64_in _ ⟨by omega, by omega⟩
theorem Cnt.bump {c : List Int} {k i : Nat} (h : Cnt c k) (hk : k ≤ 200) (hi : i < 9) : Cnt (bump c i) (k + 1) ∧ psum (bump c i) 9 = psum c 9 + 1 := by
  have hs : psum (Go.Proofs.YtpihldeikdiniaaDoor.bump c i) 9 = psum c 9 + 1 := by rw [psum_bump h.len hi (h.wrap hk hi), if_pos hi]
  refine ⟨⟨by simpa [Go.Proofs.YtpihldeikdiniaaDoor.bump] using h.len, fun j => ?_, by rw [hs]; have := h.sum; omega⟩, hs⟩
  unfold Go.Proofs.YtpihldeikdiniaaDoor.bump
  by_cases e : i = j
  · subst e
    rw [List.getElem?_set_self (by have := h.len; omega), h.wrap hk hi]
    have := h.pos i
    show 0 ≤ c[i]?.getD 0 + 1
    omega
  · rw [List.getElem?_set_ne e]; exact h.pos j
theorem Cnt.later {c : List Int} {k : Nat} (h : Cnt c k) : Cnt c (k + 1) := ⟨h.len, h.pos, by have := h.sum; omega⟩
def CntRel (w : World) (n rb qb : Nat) (i t : Value) (wr : World) : Prop :=
  ∃ (k : Nat) (s : Int) (cs : List Int), k ≤ n ∧ i = .int .i64 k ∧ t = .int .i64 (psum cs 9) ∧ (0 ≤ s ∧ s < 5) ∧ Cnt cs k ∧ RunAt wr rb 0 s cs ∧ RunAt wr qb 0 s cs ∧ Below w.heap.size w wr
def SumRel (cs : List Int) (W : World) (t i : Value) (wr : World) : Prop :=
  ∃ j : Nat, j ≤ 9 ∧ i = .int .i64 j ∧ t = .int .i64 (psum cs j) ∧ W = wr
set_option maxRecDepth 100000 in
set_option maxHeartbeats 8000000 in
theorem counts_walk (A : Option Addr) (n cap : Nat) (zs : List Int) (w : World) (ht : TabOK w) (hz : IntsIn w A n zs) :
    Calls Tryd.prog 4 #[.slice A n cap] w fun r w' => r = .returned (.bool true) ∧ Below w.heap.size w w' := by
  have hw0 := ht.1
  have HT := Lib.hid ht
  have HZ := Lib.hid hz
  have hn := hz.2.1
  clear ht hz
  by_cases hbig : 200 < n
  · go_enter Tryd.func4, Tryd.ntmps4
    go_wp2_with fail
    refine (newrun_any _).mono ?_
    rintro r w1 ⟨rb, rfl, hrb, hr1, hb1⟩
    have HB1 := Lib.hid hb1
    clear hr1 hb1
    go_wp2_with fail
    refine (newrun_any _).mono ?_
    rintro r w2 ⟨qb, rfl, hqb, hr1, hb2⟩
    have HB2 := Lib.hid (bl_then HB1.out hb2)
    have HT1 := Lib.hid (HT.out.bl HB2.out)
    clear hr1 hb2
    go_wp2_with (go_at_call 12; refine (awake_any _ HT1.out).mono ?_; rintro r w3 ⟨rfl, hb3⟩; have HB3 := Lib.hid hb3; clear hb3)
    go_ret
    exact ⟨rfl, bl_then HB2.out HB3.out⟩
  · go_enter Tryd.func4, Tryd.ntmps4
    go_wp2_with fail
    refine (newrun_any _).mono ?_
    rintro r w1 ⟨rb, rfl, hrb, hr1, hb1⟩
    have HB1 := Lib.hid hb1
    have HR1 := Lib.hid hr1
    have hrlt := hr1.lt
    clear hr1 hb1
    go_wp2_with fail
    refine (newrun_any _).mono ?_
    rintro r w2 ⟨qb, rfl, hqb, hr1, hb2⟩
    have HB2 := Lib.hid (bl_then HB1.out hb2)
    have HQ1 := Lib.hid hr1
    have HR2 := Lib.hid (HR1.out.bl hb2)
    have hsz := HB1.out.size
    have hqne : ¬ qb = rb := by omega
    have hqw : w.heap.size ≤ qb := by omega
    clear hr1 hb2
    go_wp2_with fail
    go_loopw [37, 5] (fun i t wr => CntRel w n rb qb i t wr) (fun i _ _ => n - (intOf i).toNat)
    case atStart => exact ⟨0, 0, List.replicate 9 0, Nat.zero_le _, rfl, rfl, by decide, ⟨rfl, fun j => by rw [List.getElem?_replicate]; split <;> decide, by decide⟩, HR2.out, HQ1.out, HB2.out⟩
    case round =>
      obtain ⟨k, s, cs, hk, rfl, rfl, hs, hcn, hr, hq, hb⟩ := hrel
      obtain ⟨hs0, hs5⟩ := hs
      by_cases hlt : k < n
      · obtain ⟨bz, oz, rfl, hc⟩ := HZ.out.2.2 (by omega)
        have hcell : wr.cell? ⟨bz, oz + k, none⟩ = some (.int .i64 (zs[k]?.getD 0)) := by
          have h1 := hc k hlt
          exact (hb.cell (World.block_lt_of_cell? w _ h1)).trans h1
        generalize zs[k]?.getD 0 = e at hcell
        have hkk := evOK s e hs0 hs5
        have hst := stays s e hs0 hs5
        have hd := do_ev rb 0 s cs e wr hr (HT.out.bl hb) hs0 hs5
        have hp0 := psum_nn hcn.pos 9
        have hp1 := hcn.sum
        have HR := Lib.hid hr
        have HQ := Lib.hid hq
        have HB := Lib.hid hb
        have HTr := Lib.hid (HT.out.bl hb)
        have HCN := Lib.hid hcn
        have hgood := hkk.good
        have hbad := hkk.bad
        have hshut := hkk.shut
        have hinr := hkk.inr
        have HKST := Lib.hid hkk.st
        clear hkk hr hq hb hc hcn
        generalize hsn : nxtF s e = s' at *
        generalize hfl : fltF s e = fl at *
        generalize her : errF s e = er at *
        obtain ⟨fc, fk⟩ := fl
        cases hm : mayB s e with
        | true =>
          obtain ⟨rfl, hfe⟩ := hgood hm
          obtain ⟨rfl, rfl⟩ := Prod.mk.inj hfe
          obtain ⟨he0, he9⟩ := hinr hm
          rw [hm] at hd
          simp only [if_true] at hd
          have HM := Lib.hid (fun w h => may_any s e w h)
          rw [hm] at HM
          have hbc := HCN.out.bump (i := e.toNat) (by omega) (by omega)
          have HBC := Lib.hid hbc.1
          have hsum : psum cs 9 + 1 = psum (bump cs e.toNat) 9 := hbc.2.symm
          have HS := Lib.hid hsum
          have HD := Lib.hid hd
          have HSN := Lib.hid hsn
          have HFL := Lib.hid hfl
          have HER := Lib.hid her
          have HMM := Lib.hid hm
          clear hd hst hgood hbad hshut hinr hfe hbc hsum hsn hfl her hm
          go_wp2_with (first | (go_at_call 18; refine (at_any _ _ _ _ _ HR.out).mono ?_; rintro r w4 ⟨rfl, rfl⟩) | (go_at_call 14; refine HD.out.mono ?_; rintro r w2 ⟨rfl, hr2, hf2⟩; have HR2 := Lib.hid hr2; have HF2 := Lib.hid hf2; clear hr2 hf2 HD) | (go_at_call 15; refine (ok_any _ _ _).mono ?_; rintro r w3 ⟨rfl, rfl⟩))
          refine (do_ev qb 0 s cs e _ (by repeat (first | exact HQ.out.frm HF2.out (fun j _ _ hj => hqne hj.1) | apply RunAt.alloc)) (by repeat (first | exact HTr.out.frm HF2.out (fun j hj => by have := hj.1; omega) | apply TabOK.alloc)) hs0 hs5).mono ?_
          rw [HSN.out, HFL.out, HER.out, HMM.out]
          simp only [if_true]
          rintro r w3 ⟨rfl, hq3, hf3⟩
          have HQ3 := Lib.hid hq3
          have HR3 := Lib.hid (((HR2.out.alloc (.cells #[.int .i64 0, .bool false] 33)).alloc (.cells #[.int .i64 0, .bool false] 33)).frm hf3 (fun j _ _ hj => hqne hj.1.symm))
          have hz3 : w2.heap.size < w3.heap.size := Nat.lt_of_lt_of_le (by simp; omega) hf3.size
          have hz3' : ¬ w2.heap.size = w3.heap.size := by omega
          have hg0 : w3.cell? ⟨w2.heap.size, 0, none⟩ = some (.int .i64 0) := hf3.keep (by simp [World.cell?_alloc_past, World.cell?_alloc_at]) (fun hj => by have h1 : w2.heap.size = qb := hj.1; have := HQ.out.lt; have := HF2.out.size; omega)
          have hg1 : w3.cell? ⟨w2.heap.size, 1, none⟩ = some (.bool false) := hf3.keep (by simp [World.cell?_alloc_past, World.cell?_alloc_at]) (fun hj => by have h1 : w2.heap.size = qb := hj.1; have := HQ.out.lt; have := HF2.out.size; omega)
          have HB3 := Lib.hid (bl_run (bl_alloc (bl_alloc (bl_run HB.out HF2.out hrb) _) _) hf3 hqw)
          have HT3 := Lib.hid (HT.out.bl HB3.out)
          clear hq3 hf3
          go_wp2_with (first | (go_at_call 20; refine (HM.out _ (by repeat (first | exact HT3.out | apply TabOK.alloc))).mono ?_; rintro r w4 ⟨rfl, rfl⟩) | (go_at_call 15; refine (ok_any _ _ _).mono ?_; rintro r w4 ⟨rfl, rfl⟩))
          go_roundw
          case rel => exact ⟨k + 1, s', bump cs e.toNat, by omega, by go_num, by rw [← HS.out], HKST.out, HBC.out, by repeat (first | exact HR3.out | apply RunAt.alloc), by repeat (first | exact HQ3.out | apply RunAt.alloc), by repeat (first | exact HB3.out | apply bl_alloc)⟩
          case measure => simp [intOf]; omega
        | false =>
          rw [hm] at hd
          simp only [Bool.false_eq_true, if_false] at hd
          have HM := Lib.hid (fun w h => may_any s e w h)
          rw [hm] at HM
          have hst' := hst hm
          have HD := Lib.hid hd
          have HSN := Lib.hid hsn
          rcases hbad hm with ⟨he1, hfe⟩ | ⟨rfl, hfe⟩
          · obtain ⟨rfl, rfl⟩ := Prod.mk.inj hfe
            have hst2 : s' = s := hst' (by show (0 : Int) ≠ 105; decide)
            have HS2 := Lib.hid hst2
            clear hd hst hgood hbad hshut hinr hfe hsn hfl her hm hst' hst2
            go_wp2_with (first | (go_at_call 18; refine (at_any _ _ _ _ _ HR.out).mono ?_; clear HR; rintro r w4 ⟨rfl, rfl⟩) | (go_at_call 14; refine HD.out.mono ?_; rintro r w2 ⟨rfl, hr2, hf2⟩; have HR2 := Lib.hid hr2; have HF2 := Lib.hid hf2; clear hr2 hf2 HD) | (go_at_call 15; refine (ok_any _ _ _).mono ?_; rintro r w3 ⟨rfl, rfl⟩) | (go_at_call 20; refine (HM.out _ (by repeat (first | exact HTr.out.frm HF2.out (fun j hj => by have := hj.1; omega) | apply TabOK.alloc))).mono ?_; rintro r w4 ⟨rfl, rfl⟩))
            go_roundw
            case rel => exact ⟨k + 1, s', cs, by omega, by go_num, rfl, HKST.out, HCN.out.later, by repeat (first | exact HR2.out | apply RunAt.alloc), by rw [HS2.out]; repeat (first | exact HQ.out.frm HF2.out (fun j _ _ hj => hqne hj.1) | apply RunAt.alloc), by repeat (first | exact bl_run HB.out HF2.out hrb | apply bl_alloc)⟩
            case measure => simp [intOf]; omega
          · have HFE := Lib.hid hfe
            by_cases h105 : fc = 105
            · have h4 := hshut h105
              subst h105
              subst h4
              clear hd hst hgood hbad hshut hinr hfe hsn hfl her hm hst'
              go_wp2_with (first | (go_at_call 18; refine (at_any _ _ _ _ _ HR.out).mono ?_; clear HR; rintro r w4 ⟨rfl, rfl⟩) | (go_at_call 18; refine (at_any rb 0 4 cs _ (by repeat (first | exact HR2.out | apply RunAt.alloc))).mono ?_; rintro r w4 ⟨rfl, rfl⟩) | (go_at_call 14; refine HD.out.mono ?_; rintro r w2 ⟨rfl, hr2, hf2⟩; have HR2 := Lib.hid hr2; have HF2 := Lib.hid hf2; clear hr2 hf2 HD) | (go_at_call 15; refine (ok_any _ _ _).mono ?_; rw [HFE.out]; rintro r w3 ⟨rfl, rfl⟩) | (go_at_call 20; refine (HM.out _ (by repeat (first | exact HTr.out.frm HF2.out (fun j hj => by have := hj.1; omega) | apply TabOK.alloc))).mono ?_; rintro r w4 ⟨rfl, rfl⟩) | (go_at_call 12; refine (awake_any _ (by repeat (first | exact HTr.out.frm HF2.out (fun j hj => by have := hj.1; omega) | apply TabOK.alloc))).mono ?_; rintro r w5 ⟨rfl, hb5⟩; have HB5 := Lib.hid hb5; clear hb5))
              go_ret
              exact ⟨rfl, bl_then (by repeat (first | exact bl_run HB.out HF2.out hrb | apply bl_alloc)) HB5.out⟩
            · have hst2 : s' = s := hst' h105
              have HS2 := Lib.hid hst2
              clear hd hst hgood hbad hshut hinr hfe hsn hfl her hm hst' hst2
              go_wp2_with (first | (go_at_call 18; refine (at_any _ _ _ _ _ HR.out).mono ?_; clear HR; rintro r w4 ⟨rfl, rfl⟩) | (go_at_call 14; refine HD.out.mono ?_; rintro r w2 ⟨rfl, hr2, hf2⟩; have HR2 := Lib.hid hr2; have HF2 := Lib.hid hf2; clear hr2 hf2 HD) | (go_at_call 15; refine (ok_any _ _ _).mono ?_; rw [HFE.out]; rintro r w3 ⟨rfl, rfl⟩) | (go_at_call 20; refine (HM.out _ (by repeat (first | exact HTr.out.frm HF2.out (fun j hj => by have := hj.1; omega) | apply TabOK.alloc))).mono ?_; rintro r w4 ⟨rfl, rfl⟩))
              go_roundw
              case rel => exact ⟨k + 1, s', cs, by omega, by go_num, rfl, HKST.out, HCN.out.later, by repeat (first | exact HR2.out | apply RunAt.alloc), by rw [HS2.out]; repeat (first | exact HQ.out.frm HF2.out (fun j _ _ hj => hqne hj.1) | apply RunAt.alloc), by repeat (first | exact bl_run HB.out HF2.out hrb | apply bl_alloc)⟩
              case measure => simp [intOf]; omega
      · obtain rfl : k = n := by omega
        have HR := Lib.hid hr
        have HQ := Lib.hid hq
        have HB := Lib.hid hb
        have HTr := Lib.hid (HT.out.bl hb)
        have HCN := Lib.hid hcn
        have hp0 := psum_nn hcn.pos 9
        have hp1 := hcn.sum
        have hz0 : Hid (psum cs 0 = 0) := rfl
        clear hr hq hb hcn
        go_wp2_with fail
        obtain ⟨wo, hwo⟩ : ∃ wo : World, wo = wr := ⟨_, rfl⟩
        subst hwo
        go_loopw [11, 12] (fun t i wq => SumRel cs wo t i wq) (fun _ i _ => 9 - (intOf i).toNat)
        case atStart => exact ⟨0, by omega, rfl, rfl, rfl⟩
        case round =>
          obtain ⟨j, hj, rfl, rfl, rfl⟩ := hrel
          by_cases hj9 : j < 9
          · have hc1 : cntF cs (j : Int) = cs[j]?.getD 0 := by unfold cntF; rw [if_pos ⟨by omega, by omega⟩]; simp
            have hq1 := psum_nn HCN.out.pos j
            have hq2 := psum_mono HCN.out.pos (i := j + 1) (j := 9) (by omega)
            have hq3 := HCN.out.pos j
            have hq4 := psum_succ cs j
            rw [hq4] at hq2
            have HP := Lib.hid hq4
            have HC1 := Lib.hid hc1
            clear hc1 hq4
            generalize psum cs j = p1 at *
            generalize cs[j]?.getD 0 = cj at *
            have hle : (j : Int) ≤ 8 := by omega
            go_wp2_with (go_at_call 16; refine (count_any _ 0 s cs _ _ (by first | exact HR.out | exact HQ.out)).mono ?_; rw [HC1.out]; rintro r w4 ⟨rfl, rfl⟩)
            go_roundw
            case rel => exact ⟨j + 1, by omega, by go_num, by rw [HP.out], rfl⟩
            case measure => simp [intOf]; omega
          · obtain rfl : j = 9 := by omega
            go_wp2_with (first | (go_at_call 18; refine (at_any _ 0 s cs _ (by first | exact HR.out | exact HQ.out)).mono ?_; rintro r w4 ⟨rfl, rfl⟩) | (go_at_call 12; refine (awake_any _ HTr.out).mono ?_; rintro r w5 ⟨rfl, hb5⟩; have HB5 := Lib.hid hb5; clear hb5))
            go_ret
            exact ⟨rfl, bl_then HB.out HB5.out⟩
end Go.Proofs.YtpihldeikdiniaaDoor
