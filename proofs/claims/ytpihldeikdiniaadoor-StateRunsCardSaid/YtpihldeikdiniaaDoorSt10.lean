/- StateRuns: the walk. -/
import Derived.Test.YtpihldeikdiniaaDoorSt8
import Derived.Deep.QuietTactic
import Derived.BigQuiet
import Derived.Deep.RegionHeld3
namespace Go.Proofs.YtpihldeikdiniaaDoor
open Go.RowKit
set_option linter.unusedVariables false
set_option linter.unusedSimpArgs false
/-- A stream as the reference has it, in order. -/
def RS.ok (x : RS) : Prop := (x.b = 0 ∨ x.b = 1) ∧ (x.y = 0 ∨ x.y = 1) ∧ (x.t = 0 ∨ x.t = 1) ∧ (x.r = 0 ∨ x.r = 1) ∧ (x.b = 0 → x.y = 1 ∧ x.t = 1 ∧ x.r = 0)
instance (x : RS) : Decidable x.ok := by unfold RS.ok; infer_instance
def rsAt (i : Fin 16) : RS := ⟨(i.val % 2 : Nat), (i.val / 2 % 2 : Nat), (i.val / 4 % 2 : Nat), (i.val / 8 % 2 : Nat)⟩
theorem rs_enum {P : RS → Prop} (h : ∀ i : Fin 16, (rsAt i).ok → P (rsAt i)) (x : RS) (hx : x.ok) : P x := by
  obtain ⟨b, y, t, r⟩ := x
  have hx' := hx
  obtain ⟨hb, hy, ht, hr, _⟩ := hx'
  have hb : b = 0 ∨ b = 1 := hb
  have hy : y = 0 ∨ y = 1 := hy
  have ht : t = 0 ∨ t = 1 := ht
  have hr : r = 0 ∨ r = 1 := hr
  rcases hb with rfl | rfl <;> rcases hy with rfl | rfl <;> rcases ht with rfl | rfl <;> rcases hr with rfl | rfl
  all_goals first
    | exact h 0 hx | exact h 1 hx | exact h 2 hx | exact h 3 hx | exact h 4 hx | exact h 5 hx | exact h 6 hx | exact h 7 hx
    | exact h 8 hx | exact h 9 hx | exact h 10 hx | exact h 11 hx | exact h 12 hx | exact h 13 hx | exact h 14 hx | exact h 15 hx
def RunOK (x : RS) (e : Int) : Prop :=
  (refDo x e).1.ok ∧ (refDo x e).1.num = nxtF x.num e ∧
    ((refDo x e).2 = 0 ∧ errF x.num e = 0 ∧ fltF x.num e = (0, false) ∧ mayB x.num e = true ∨ (refDo x e).2 = 1 ∧ errF x.num e = 25 ∧ fltF x.num e = (0, false) ∧ mayB x.num e = false ∨
     (refDo x e).2 = 2 ∧ errF x.num e = 0 ∧ fltF x.num e = (101, true) ∧ mayB x.num e = false ∨ (refDo x e).2 = 3 ∧ errF x.num e = 0 ∧ fltF x.num e = (105, false) ∧ mayB x.num e = false)
instance (x : RS) (e : Int) : Decidable (RunOK x e) := by unfold RunOK; infer_instance
theorem runOK (x : RS) (hx : x.ok) (e : Int) (h0 : 0 ≤ e) (h9 : e < 9) : RunOK x e :=
  rs_enum (P := fun x => ∀ e, 0 ≤ e → e < 9 → RunOK x e) (fun i hi e h0 h9 => enumI (n := 9) (P := fun e => RunOK (rsAt i) e) (fun j => (by decide +kernel : ∀ i : Fin 16, (rsAt i).ok → ∀ j : Fin 9, RunOK (rsAt i) (j.val : Int)) i hi j) e h0 h9) x hx e h0 h9
theorem rs_num_range (x : RS) (hx : x.ok) : 0 ≤ x.num ∧ x.num < 5 :=
  rs_enum (P := fun x => 0 ≤ x.num ∧ x.num < 5) (fun i hi => (by decide +kernel : ∀ i : Fin 16, (rsAt i).ok → 0 ≤ (rsAt i).num ∧ (rsAt i).num < 5) i hi) x hx
theorem bad_ev {s e : Int} (h : e < 0 ∨ 8 < e) : errF s e = 11 ∧ fltF s e = (0, false) ∧ nxtF s e = s ∧ mayB s e = false := by
  have h1 : mayB s e = false := by simp [mayB]; omega
  have h2 : sendsB e = false := by simp [sendsB]; omega
  have h3 : getsB e = false := by simp [getsB]; omega
  exact ⟨by simp [errF, doF, h2, h3], by simp [fltF, doF, h2, h3], by simp [nxtF, doF, h2, h3], h1⟩
def bump (c : List Int) (i : Nat) : List Int := c.set i (wrap64 (c[i]?.getD 0 + 1))
theorem do_ev (b o : Nat) (s : Int) (c : List Int) (e : Int) (w : World) (hr : RunAt w b o s c) (ht : TabOK w) (hs : 0 ≤ s) (hs4 : s < 5) :
    Calls Tryd.prog 14 #[.pointer (some ⟨b, o, none⟩), .int .i64 e] w fun r w' => r = .returned (.tuple #[.int .i64 (errF s e), .agg #[.int .i64 (fltF s e).1, .bool (fltF s e).2]]) ∧ RunAt w' b o (nxtF s e) (if mayB s e = true then bump c e.toNat else c) ∧ Frm (RunS b o) w w' := by
  have := do_any b o s c e w hr ht
  rw [doF_eq hs hs4] at this
  exact this
/-- The reference's stream in its block; the law's own counts in theirs. -/
structure XAt (w : World) (bx : Nat) (x : RS) : Prop where
  c0 : w.cell? ⟨bx, 0, none⟩ = some (.int .i64 x.b)
  c1 : w.cell? ⟨bx, 1, none⟩ = some (.int .i64 x.y)
  c2 : w.cell? ⟨bx, 2, none⟩ = some (.int .i64 x.t)
  c3 : w.cell? ⟨bx, 3, none⟩ = some (.int .i64 x.r)
  f : ∀ j, w.frozen? ⟨bx, j, none⟩ = false
structure CAt (w : World) (bc : Nat) (c : List Int) : Prop where
  len : c.length = 9
  cell : ∀ i, i < 9 → w.cell? ⟨bc, i, none⟩ = some (.int .i64 (c[i]?.getD 0))
  f : ∀ j, w.frozen? ⟨bc, j, none⟩ = false
section
variable {w w' : World} {bx bc : Nat} {x : RS} {c : List Int} {S : Nat → Nat → Prop}
theorem XAt.lt (h : XAt w bx x) : bx < w.heap.size := World.block_lt_of_cell? w _ h.c0
theorem CAt.lt (h : CAt w bc c) : bc < w.heap.size := World.block_lt_of_cell? w _ (h.cell 0 (by decide))
theorem XAt.frm (h : XAt w bx x) (hf : Frm S w w') (hn : ∀ j, ¬ S bx j) : XAt w' bx x :=
  ⟨hf.keep h.c0 (hn _), hf.keep h.c1 (hn _), hf.keep h.c2 (hn _), hf.keep h.c3 (hn _), fun j => (hf.frozen (p := ⟨bx, j, none⟩) h.lt).trans (h.f j)⟩
theorem CAt.frm (h : CAt w bc c) (hf : Frm S w w') (hn : ∀ j, ¬ S bc j) : CAt w' bc c :=
  ⟨h.len, fun i hi => hf.keep (h.cell i hi) (hn _), fun j => (hf.frozen (p := ⟨bc, j, none⟩) h.lt).trans (h.f j)⟩
theorem XAt.alloc (h : XAt w bx x) (o : Obj) : XAt (w.alloc o) bx x := h.frm (Frm.of_below (S := NoS) (bl_alloc (Below.refl _ _) _)) (fun _ h => h)
theorem CAt.alloc (h : CAt w bc c) (o : Obj) : CAt (w.alloc o) bc c := h.frm (Frm.of_below (S := NoS) (bl_alloc (Below.refl _ _) _)) (fun _ h => h)
theorem XAt.drew (h : XAt w bx x) : XAt w.drew bx x := ⟨h.c0, h.c1, h.c2, h.c3, h.f⟩
theorem CAt.drew (h : CAt w bc c) : CAt w.drew bc c := ⟨h.len, h.cell, h.f⟩
theorem XAt.far (h : XAt w bx x) {p : Addr} (hp : ¬ bx = p.block) (v : Value) : XAt (w.setCell p v) bx x :=
  h.frm (S := fun k j => k = p.block) (Frm.set_old (Frm.refl _ _) rfl v) (fun _ => hp)
theorem CAt.far (h : CAt w bc c) {p : Addr} (hp : ¬ bc = p.block) (v : Value) : CAt (w.setCell p v) bc c :=
  h.frm (S := fun k j => k = p.block) (Frm.set_old (Frm.refl _ _) rfl v) (fun _ => hp)
theorem RunAt.far {rb o : Nat} {s : Int} {cs : List Int} (h : RunAt w rb o s cs) {p : Addr} (hp : ¬ rb = p.block) (v : Value) : RunAt (w.setCell p v) rb o s cs :=
  h.frm (S := fun k j => k = p.block) (Frm.set_old (Frm.refl _ _) rfl v) (fun _ _ _ => hp)
theorem XAt.set (h : XAt w bx x) (b y t r : Int) : XAt ((((w.setCell ⟨bx, 0, none⟩ (.int .i64 b)).setCell ⟨bx, 1, none⟩ (.int .i64 y)).setCell ⟨bx, 2, none⟩ (.int .i64 t)).setCell ⟨bx, 3, none⟩ (.int .i64 r)) bx ⟨b, y, t, r⟩ := by
  have n01 : (⟨bx, 0, none⟩ : Addr) ≠ ⟨bx, 1, none⟩ := by simp
  have n02 : (⟨bx, 0, none⟩ : Addr) ≠ ⟨bx, 2, none⟩ := by simp
  have n03 : (⟨bx, 0, none⟩ : Addr) ≠ ⟨bx, 3, none⟩ := by simp
  have n12 : (⟨bx, 1, none⟩ : Addr) ≠ ⟨bx, 2, none⟩ := by simp
  have n13 : (⟨bx, 1, none⟩ : Addr) ≠ ⟨bx, 3, none⟩ := by simp
  have n23 : (⟨bx, 2, none⟩ : Addr) ≠ ⟨bx, 3, none⟩ := by simp
  refine ⟨?_, ?_, ?_, ?_, fun j => by simp [h.f j]⟩
  · rw [World.cell?_setCell_other _ _ _ _ n03.symm, World.cell?_setCell_other _ _ _ _ n02.symm, World.cell?_setCell_other _ _ _ _ n01.symm]
    exact World.cell?_setCell_same _ _ _ h.c0
  · rw [World.cell?_setCell_other _ _ _ _ n13.symm, World.cell?_setCell_other _ _ _ _ n12.symm]
    exact World.cell?_setCell_same _ _ _ ((World.cell?_setCell_other _ _ _ _ n01).trans h.c1)
  · rw [World.cell?_setCell_other _ _ _ _ n23.symm]
    exact World.cell?_setCell_same _ _ _ ((World.cell?_setCell_other _ _ _ _ n12).trans ((World.cell?_setCell_other _ _ _ _ n02).trans h.c2))
  · exact World.cell?_setCell_same _ _ _ ((World.cell?_setCell_other _ _ _ _ n23).trans ((World.cell?_setCell_other _ _ _ _ n13).trans ((World.cell?_setCell_other _ _ _ _ n03).trans h.c3)))
theorem CAt.bump (h : CAt w bc c) {i : Nat} (hi : i < 9) : CAt (w.setCell ⟨bc, i, none⟩ (.int .i64 (wrap64 (c[i]?.getD 0 + 1)))) bc (bump c i) :=
  ⟨by simpa [Go.Proofs.YtpihldeikdiniaaDoor.bump] using h.len, fun j hj => by
    unfold Go.Proofs.YtpihldeikdiniaaDoor.bump
    by_cases e : i = j
    · subst e
      rw [World.cell?_setCell_same _ _ _ (h.cell i hi), List.getElem?_set_self (by have := h.len; omega)]
      rfl
    · rw [World.cell?_setCell_other _ _ _ _ (by simp <;> omega), h.cell j hj, List.getElem?_set_ne e], fun j => by simp [h.f j]⟩
end
theorem XAt.new (w : World) (x : RS) (t : TypeId) {bx : Nat} (h : bx = w.heap.size) : XAt (w.alloc (.cells #[.int .i64 x.b, .int .i64 x.y, .int .i64 x.t, .int .i64 x.r] t)) bx x :=
  ⟨World.cell?_alloc_at _ _ _ _ h, World.cell?_alloc_at _ _ _ _ h, World.cell?_alloc_at _ _ _ _ h, World.cell?_alloc_at _ _ _ _ h, fun j => World.frozen?_alloc_at _ _ _ _ h⟩
theorem CAt.zero (w : World) (t : TypeId) {bc : Nat} (h : bc = w.heap.size) : CAt (w.alloc (.cells #[.int .i64 0, .int .i64 0, .int .i64 0, .int .i64 0, .int .i64 0, .int .i64 0, .int .i64 0, .int .i64 0, .int .i64 0] t)) bc (List.replicate 9 0) := by
  refine ⟨rfl, fun i hi => ?_, fun j => World.frozen?_alloc_at _ _ _ _ h⟩
  rw [World.cell?_alloc_at _ _ _ _ h]
  match i, hi with
  | 0, _ => rfl
  | 1, _ => rfl
  | 2, _ => rfl
  | 3, _ => rfl
  | 4, _ => rfl
  | 5, _ => rfl
  | 6, _ => rfl
  | 7, _ => rfl
  | 8, _ => rfl
/-- What holds behind the reference's step and the two stores. -/
structure Mid (w W : World) (rb bx fb : Nat) (s : Int) (cs : List Int) (x : RS) (fc : Int) (fk : Bool) : Prop where
  x : XAt W bx x
  c : CAt W (bx + 1) cs
  r : RunAt W rb 0 s cs
  b : Below w.heap.size w W
  f0 : W.cell? ⟨fb, 0, none⟩ = some (.int .i64 fc)
  f1 : W.cell? ⟨fb, 1, none⟩ = some (.bool fk)
section
variable {w wr w2 : World} {rb bx : Nat} {s : Int} {cs cs' : List Int} {x y : RS} {fc : Int} {fk : Bool} {o1 o2 o3 : Obj} {t : TypeId}
theorem mid_stores (hx : XAt wr bx x) (hc : CAt wr (bx + 1) cs) (hr : RunAt w2 rb 0 s cs') (hb : Below w.heap.size w wr) (hf : Frm (RunS rb 0) wr w2) (hcl : w.heap.size ≤ rb) (hwx : w.heap.size ≤ bx) (n1 : ¬ rb = bx) (n2 : ¬ rb = bx + 1) :
    let W := (((w2.setCell ⟨bx, 0, none⟩ (.int .i64 y.b)).setCell ⟨bx, 1, none⟩ (.int .i64 y.y)).setCell ⟨bx, 2, none⟩ (.int .i64 y.t)).setCell ⟨bx, 3, none⟩ (.int .i64 y.r)
    XAt W bx y ∧ CAt W (bx + 1) cs ∧ RunAt W rb 0 s cs' ∧ Below w.heap.size w W := by
  intro W
  have hx2 : XAt w2 bx x := hx.frm hf (fun j hj => n1 hj.1.symm)
  have hc2 : CAt w2 (bx + 1) cs := hc.frm hf (fun j hj => n2 hj.1.symm)
  have hb2 := bl_run hb hf hcl
  have ne : ¬ bx + 1 = bx := by omega
  exact ⟨hx2.set _ _ _ _, (((hc2.far ne _).far ne _).far ne _).far ne _, (((hr.far n1 _).far n1 _).far n1 _).far n1 _, bl_set (bl_set (bl_set (bl_set hb2 hwx _) hwx _) hwx _) hwx _⟩
theorem Mid.of4 {W : World} {fb : Nat} (hx : XAt W bx y) (hc : CAt W (bx + 1) cs) (hr : RunAt W rb 0 s cs) (hb : Below w.heap.size w W) (hfb : fb = W.heap.size) :
    Mid w ((((W.alloc (.cells #[.int .i64 fc, .bool fk] t)).alloc o1).alloc o2).alloc o3) rb bx fb s cs y fc fk := by
  subst hfb
  have e : ∀ j, ((((W.alloc (.cells #[.int .i64 fc, .bool fk] t)).alloc o1).alloc o2).alloc o3).cell? ⟨W.heap.size, j, none⟩ = (#[Value.int .i64 fc, Value.bool fk])[j]? := fun j => by
    rw [World.cell?_alloc_past _ _ _ (by simp; omega), World.cell?_alloc_past _ _ _ (by simp; omega), World.cell?_alloc_past _ _ _ (by simp), World.cell?_alloc_at _ _ _ _ rfl]
  exact ⟨(((hx.alloc _).alloc _).alloc _).alloc _, (((hc.alloc _).alloc _).alloc _).alloc _, (((hr.alloc _).alloc _).alloc _).alloc _, bl_alloc (bl_alloc (bl_alloc (bl_alloc hb _) _) _) _, e 0, e 1⟩
end
def RunsRel (w : World) (n rb bx bc : Nat) (i : Value) (wr : World) : Prop :=
  ∃ (k : Nat) (cs : List Int) (x : RS), k ≤ n ∧ i = .int .i64 k ∧ x.ok ∧ RunAt wr rb 0 x.num cs ∧ XAt wr bx x ∧ CAt wr bc cs ∧ Below w.heap.size w wr
set_option maxRecDepth 100000 in
set_option maxHeartbeats 20000000 in
theorem runs_walk (A : Option Addr) (n cap : Nat) (zs : List Int) (w : World) (ht : TabOK w) (hz : IntsIn w A n zs) :
    Calls Tryd.prog 3 #[.slice A n cap] w fun r w' => r = .returned (.bool true) ∧ Below w.heap.size w w' := by
  have hw0 := ht.1
  have HT := Lib.hid ht
  have HZ := Lib.hid hz
  have hn := hz.2.1
  clear ht hz
  by_cases hbig : 200 < n
  · go_enter Tryd.func3, Tryd.ntmps3
    go_wp2_with fail
    refine (newrun_any _).mono ?_
    rintro r w1 ⟨rb, rfl, hrb, hr1, hb1⟩
    have HB1 := Lib.hid hb1
    have HT1 := Lib.hid (HT.out.bl hb1)
    clear hr1 hb1
    go_wp2_with (go_at_call 12; refine (awake_any _ HT1.out).mono ?_; rintro r w2 ⟨rfl, hb2⟩; have HB2 := Lib.hid hb2; clear hb2)
    go_ret
    exact ⟨rfl, bl_then HB1.out HB2.out⟩
  · go_enter Tryd.func3, Tryd.ntmps3
    go_wp2_with fail
    refine (newrun_any _).mono ?_
    rintro r w1 ⟨rb, rfl, hrb, hr1, hb1⟩
    have HB1 := Lib.hid hb1
    have HR1 := Lib.hid hr1
    have hrlt := hr1.lt
    clear hr1 hb1
    go_wp2_with (go_at_call 13; refine (rnew_any _).mono ?_; rintro r w2 ⟨rfl, rfl⟩; unfold rst rstO)
    go_loopw [27] (fun i wr => RunsRel w n rb (w1.heap.size + 1) (w1.heap.size + 1 + 1) i wr) (fun i _ => n - (intOf i).toNat)
    case atStart =>
      exact ⟨0, List.replicate 9 0, ⟨0, 1, 1, 0⟩, Nat.zero_le _, rfl, by decide, ((HR1.out.alloc _).alloc _).alloc _, (XAt.new _ ⟨0, 1, 1, 0⟩ _ (by simp)).alloc _, CAt.zero _ _ (by simp), bl_alloc (bl_alloc (bl_alloc HB1.out _) _) _⟩
    case round =>
      obtain ⟨k, cs, x, hk, rfl, hx, hr, hxa, hca, hb⟩ := hrel
      have hxc : w.heap.size ≤ w1.heap.size := HB1.out.size
      by_cases hlt : k < n
      · obtain ⟨bz, oz, rfl, hc⟩ := HZ.out.2.2 (by omega)
        have hcell : wr.cell? ⟨bz, oz + k, none⟩ = some (.int .i64 (zs[k]?.getD 0)) := by
          have h1 := hc k hlt
          exact (hb.cell (World.block_lt_of_cell? w _ h1)).trans h1
        have hcl : w.heap.size ≤ rb := hrb
        generalize zs[k]?.getD 0 = e at hcell
        have hrr := rs_num_range x hx
        have hd := do_ev rb 0 x.num cs e wr hr (HT.out.bl hb) hrr.1 hrr.2
        have hbx : w1.heap.size + 1 < wr.heap.size := hxa.lt
        have hbc : w1.heap.size + 1 + 1 < wr.heap.size := hca.lt
        generalize hbxe : w1.heap.size + 1 = bx at *
        have hrbx : ¬ rb = bx := by omega
        have hwbx : w.heap.size ≤ bx := by omega
        have hrbc : ¬ rb = bx + 1 := by omega
        by_cases hev : 0 ≤ e ∧ e < 9
        · obtain ⟨hev0, hev9⟩ := hev
          have hrok := runOK x hx e hev0 hev9
          unfold RunOK at hrok
          have hcv := hca.cell e.toNat (by omega)
          have hcf := hca.f e.toNat
          have hx0 := hxa.c0
          have hx1 := hxa.c1
          have hx2 := hxa.c2
          have hx3 := hxa.c3
          have hxf := hxa.f
          have HDO := Lib.hid (fun w => rdo_any x e w)
          unfold RdoP at HDO
          generalize hxx : refDo x e = q at *
          obtain ⟨x', what⟩ := q
          obtain ⟨hx'ok, hx'num, hcase⟩ := hrok
          have HN := Lib.hid (fun w => rnum_any x'.b x'.y x'.t x'.r w)
          have hn' : numF x'.b x'.y x'.t x'.r = nxtF x.num e := hx'num
          rw [hn'] at HN
          clear hn' hxx
          have HXO := Lib.hid hx'ok
          have HXN := Lib.hid hx'num
          have HXA := Lib.hid hxa
          have HCA := Lib.hid hca
          have HB := Lib.hid hb
          have hclen := hca.len
          obtain ⟨xb, xy, xt, xr⟩ := x
          obtain ⟨yb, yy, yt, yr⟩ := x'
          simp only [] at hx0 hx1 hx2 hx3
          unfold RS.val rst at HDO
          unfold rst rstO at HN
          generalize hnn : RS.num ⟨xb, xy, xt, xr⟩ = s at *
          generalize nxtF s e = s' at *
          clear hx'ok hx'num hxa hca hb hc hr hx hrr hnn
          rcases hcase with ⟨rfl, h1, h2, h3⟩ | ⟨rfl, h1, h2, h3⟩ | ⟨rfl, h1, h2, h3⟩ | ⟨rfl, h1, h2, h3⟩
          · rw [h1, h2, h3] at hd
            simp only [if_true] at hd
            have HD := Lib.hid hd
            have hcnt : cntF (bump cs e.toNat) e = wrap64 (cs[e.toNat]?.getD 0 + 1) := by
              unfold cntF bump
              rw [if_pos ⟨hev0, hev9⟩, List.getElem?_set_self (by omega)]
              rfl
            have HC := Lib.hid hcnt
            have HCB := Lib.hid (fun (W : World) (h : CAt W (bx + 1) cs) => h.bump (i := e.toNat) (by omega))
            generalize cs[e.toNat]?.getD 0 = cv at *
            clear hd h1 h2 h3 hcnt hclen
            go_wp2_with (first | (go_at_call 14; refine HD.out.mono ?_; rintro r w2 ⟨rfl, hr2, hf2⟩; have HR2 := Lib.hid hr2; have HF2 := Lib.hid hf2; have hz2 := hf2.size; have hltA := Nat.lt_of_lt_of_le hbx hz2; have hltB := Nat.lt_of_lt_of_le hbc hz2; obtain ⟨⟨hne, hne1, hne2, hne3, hne4, hne5⟩, hlt0, hlt1, hlt2, hlt3, hlt4⟩ := ne_new (Nat.lt_of_lt_of_le hbx hz2); obtain ⟨⟨hme, hme1, hme2, hme3, hme4, hme5⟩, hmt0, hmt1, hmt2, hmt3, hmt4⟩ := ne_new (Nat.lt_of_lt_of_le hbc hz2); have hx0' := hf2.keep hx0 (fun j => hrbx j.1.symm); have hx1' := hf2.keep hx1 (fun j => hrbx j.1.symm); have hx2' := hf2.keep hx2 (fun j => hrbx j.1.symm); have hx3' := hf2.keep hx3 (fun j => hrbx j.1.symm); have hcv' := hf2.keep hcv (fun j => hrbc j.1.symm); have hxf' : ∀ j, w2.frozen? ⟨bx, j, none⟩ = false := fun j => (hf2.frozen (p := ⟨bx, j, none⟩) hbx).trans (hxf j); have hcf' := (hf2.frozen (p := ⟨bx + 1, e.toNat, none⟩) hbc).trans hcf; clear hr2 hf2) | (go_at_call 17; refine (HDO.out _).mono ?_; rintro r w3 ⟨rfl, o1, o2, o3, rfl⟩))
            have hm := mid_stores (y := ⟨yb, yy, yt, yr⟩) HXA.out HCA.out HR2.out HB.out HF2.out hcl hwbx hrbx hrbc
            have HM : Mid w _ rb bx w2.heap.size s' (bump cs e.toNat) ⟨yb, yy, yt, yr⟩ 0 false := Mid.of4 (t := 33) (o1 := o1) (o2 := o2) (o3 := o3) (hm.1.far (p := ⟨bx + 1, e.toNat, none⟩) (by simp) (.int .i64 (wrap64 (cv + 1)))) (HCB.out _ hm.2.1) (hm.2.2.1.far (p := ⟨bx + 1, e.toNat, none⟩) hrbc _) (bl_set hm.2.2.2 (by omega) _) (by simp)
            clear hm
            generalize hW : World.alloc _ o3 = W at *
            have HXW := HM.x
            have HCW := HM.c
            have HRW := HM.r
            have HBW := HM.b
            have hy0 := HXW.c0
            have hy1 := HXW.c1
            have hy2 := HXW.c2
            have hy3 := HXW.c3
            have hyc : W.cell? ⟨bx + 1, e.toNat, none⟩ = some (.int .i64 (wrap64 (cv + 1))) := by
              have := HCW.cell e.toNat (by omega)
              have h2 := HC.out
              unfold cntF at h2
              rw [if_pos ⟨hev0, hev9⟩] at h2
              rw [h2] at this
              exact this
            have hf0 := HM.f0
            have hf1 := HM.f1
            have hwf : w2.heap.size < W.heap.size := World.block_lt_of_cell? W _ hf0
            have hwx : bx < W.heap.size := HXW.lt
            have hwc : bx + 1 < W.heap.size := HCW.lt
            have HXW' := Lib.hid HXW
            have HCW' := Lib.hid HCW
            have HRW' := Lib.hid HRW
            have HBW' := Lib.hid HBW
            generalize w2.heap.size = fb at *
            clear HM HXW HCW HRW HBW hW hx0 hx1 hx2 hx3 hcv hcf hxf hbx hbc hne hne1 hne2 hne3 hne4 hne5 hlt0 hlt1 hlt2 hlt3 hlt4 hme hme1 hme2 hme3 hme4 hme5 hmt0 hmt1 hmt2 hmt3 hmt4 hx0' hx1' hx2' hx3' hcv' hxf' hcf' hltA hltB hz2 HR2 HF2
            go_region_held3 (fun w' => w'.cell? ⟨bx, 0, none⟩ = some (.int .i64 yb) ∧ w'.cell? ⟨bx, 1, none⟩ = some (.int .i64 yy) ∧ w'.cell? ⟨bx, 2, none⟩ = some (.int .i64 yt) ∧ w'.cell? ⟨bx, 3, none⟩ = some (.int .i64 yr) ∧ w'.cell? ⟨fb, 0, none⟩ = some (.int .i64 0) ∧ w'.cell? ⟨fb, 1, none⟩ = some (.bool false) ∧ w'.cell? ⟨bx + 1, e.toNat, none⟩ = some (.int .i64 (wrap64 (cv + 1)))) (go_keep) (first | (go_at_call 18; refine (at_any rb 0 s' (bump cs e.toNat) _ (by repeat (first | exact HRW'.out | apply RunAt.alloc | apply RunAt.drew))).mono ?_; rintro r w4 ⟨rfl, rfl⟩) | (go_at_call 19; refine (HN.out _).mono ?_; rintro r w4 ⟨rfl, rfl⟩) | (go_at_call 15; refine (ok_any _ _ _).mono ?_; rintro r w4 ⟨rfl, rfl⟩) | (go_at_call 16; refine (count_any rb 0 s' (bump cs e.toNat) _ _ (by repeat (first | exact HRW'.out | apply RunAt.alloc | apply RunAt.drew))).mono ?_; rw [HC.out]; rintro r w4 ⟨rfl, rfl⟩))
            go_wp2
            go_roundw
            case rel =>
              have hxn : RS.num ⟨yb, yy, yt, yr⟩ = s' := HXN.out
              exact ⟨k + 1, bump cs e.toNat, ⟨yb, yy, yt, yr⟩, by omega, by go_num, HXO.out, by rw [hxn]; repeat (first | exact HRW'.out | apply RunAt.alloc | apply RunAt.drew), by repeat (first | exact HXW'.out | apply XAt.alloc | apply XAt.drew), by repeat (first | exact HCW'.out | apply CAt.alloc | apply CAt.drew), by repeat (first | exact HBW'.out | apply bl_alloc | apply Below.drew)⟩
            case measure => simp [intOf]; omega
          · rw [h1, h2, h3] at hd
            simp only [Bool.false_eq_true, if_false] at hd
            have HD := Lib.hid hd
            have hcnt : cntF cs e = cs[e.toNat]?.getD 0 := by
              unfold cntF
              rw [if_pos ⟨hev0, hev9⟩]
            have HC := Lib.hid hcnt
            generalize cs[e.toNat]?.getD 0 = cv at *
            clear hd h1 h2 h3 hcnt hclen
            go_wp2_with (first | (go_at_call 14; refine HD.out.mono ?_; rintro r w2 ⟨rfl, hr2, hf2⟩; have HR2 := Lib.hid hr2; have HF2 := Lib.hid hf2; have hz2 := hf2.size; have hltA := Nat.lt_of_lt_of_le hbx hz2; have hltB := Nat.lt_of_lt_of_le hbc hz2; obtain ⟨⟨hne, hne1, hne2, hne3, hne4, hne5⟩, hlt0, hlt1, hlt2, hlt3, hlt4⟩ := ne_new (Nat.lt_of_lt_of_le hbx hz2); obtain ⟨⟨hme, hme1, hme2, hme3, hme4, hme5⟩, hmt0, hmt1, hmt2, hmt3, hmt4⟩ := ne_new (Nat.lt_of_lt_of_le hbc hz2); have hx0' := hf2.keep hx0 (fun j => hrbx j.1.symm); have hx1' := hf2.keep hx1 (fun j => hrbx j.1.symm); have hx2' := hf2.keep hx2 (fun j => hrbx j.1.symm); have hx3' := hf2.keep hx3 (fun j => hrbx j.1.symm); have hcv' := hf2.keep hcv (fun j => hrbc j.1.symm); have hxf' : ∀ j, w2.frozen? ⟨bx, j, none⟩ = false := fun j => (hf2.frozen (p := ⟨bx, j, none⟩) hbx).trans (hxf j); have hcf' := (hf2.frozen (p := ⟨bx + 1, e.toNat, none⟩) hbc).trans hcf; clear hr2 hf2) | (go_at_call 17; refine (HDO.out _).mono ?_; rintro r w3 ⟨rfl, o1, o2, o3, rfl⟩))
            have hm := mid_stores (y := ⟨yb, yy, yt, yr⟩) HXA.out HCA.out HR2.out HB.out HF2.out hcl hwbx hrbx hrbc
            have HM : Mid w _ rb bx w2.heap.size s' cs ⟨yb, yy, yt, yr⟩ 0 false := Mid.of4 (t := 33) (o1 := o1) (o2 := o2) (o3 := o3) hm.1 hm.2.1 hm.2.2.1 hm.2.2.2 (by simp)
            clear hm
            generalize hW : World.alloc _ o3 = W at *
            have HXW := HM.x
            have HCW := HM.c
            have HRW := HM.r
            have HBW := HM.b
            have hy0 := HXW.c0
            have hy1 := HXW.c1
            have hy2 := HXW.c2
            have hy3 := HXW.c3
            have hyc : W.cell? ⟨bx + 1, e.toNat, none⟩ = some (.int .i64 cv) := by
              have := HCW.cell e.toNat (by omega)
              have h2 := HC.out
              unfold cntF at h2
              rw [if_pos ⟨hev0, hev9⟩] at h2
              rw [h2] at this
              exact this
            have hf0 := HM.f0
            have hf1 := HM.f1
            have hwf : w2.heap.size < W.heap.size := World.block_lt_of_cell? W _ hf0
            have hwx : bx < W.heap.size := HXW.lt
            have hwc : bx + 1 < W.heap.size := HCW.lt
            have HXW' := Lib.hid HXW
            have HCW' := Lib.hid HCW
            have HRW' := Lib.hid HRW
            have HBW' := Lib.hid HBW
            generalize w2.heap.size = fb at *
            clear HM HXW HCW HRW HBW hW hx0 hx1 hx2 hx3 hcv hcf hxf hbx hbc hne hne1 hne2 hne3 hne4 hne5 hlt0 hlt1 hlt2 hlt3 hlt4 hme hme1 hme2 hme3 hme4 hme5 hmt0 hmt1 hmt2 hmt3 hmt4 hx0' hx1' hx2' hx3' hcv' hxf' hcf' hltA hltB hz2 HR2 HF2
            go_region_held3 (fun w' => w'.cell? ⟨bx, 0, none⟩ = some (.int .i64 yb) ∧ w'.cell? ⟨bx, 1, none⟩ = some (.int .i64 yy) ∧ w'.cell? ⟨bx, 2, none⟩ = some (.int .i64 yt) ∧ w'.cell? ⟨bx, 3, none⟩ = some (.int .i64 yr) ∧ w'.cell? ⟨fb, 0, none⟩ = some (.int .i64 0) ∧ w'.cell? ⟨fb, 1, none⟩ = some (.bool false) ∧ w'.cell? ⟨bx + 1, e.toNat, none⟩ = some (.int .i64 cv)) (go_keep) (first | (go_at_call 18; refine (at_any rb 0 s' cs _ (by repeat (first | exact HRW'.out | apply RunAt.alloc | apply RunAt.drew))).mono ?_; rintro r w4 ⟨rfl, rfl⟩) | (go_at_call 19; refine (HN.out _).mono ?_; rintro r w4 ⟨rfl, rfl⟩) | (go_at_call 15; refine (ok_any _ _ _).mono ?_; rintro r w4 ⟨rfl, rfl⟩) | (go_at_call 16; refine (count_any rb 0 s' cs _ _ (by repeat (first | exact HRW'.out | apply RunAt.alloc | apply RunAt.drew))).mono ?_; rw [HC.out]; rintro r w4 ⟨rfl, rfl⟩))
            go_wp2
            go_roundw
            case rel =>
              have hxn : RS.num ⟨yb, yy, yt, yr⟩ = s' := HXN.out
              exact ⟨k + 1, cs, ⟨yb, yy, yt, yr⟩, by omega, by go_num, HXO.out, by rw [hxn]; repeat (first | exact HRW'.out | apply RunAt.alloc | apply RunAt.drew), by repeat (first | exact HXW'.out | apply XAt.alloc | apply XAt.drew), by repeat (first | exact HCW'.out | apply CAt.alloc | apply CAt.drew), by repeat (first | exact HBW'.out | apply bl_alloc | apply Below.drew)⟩
            case measure => simp [intOf]; omega
          · rw [h1, h2, h3] at hd
            simp only [Bool.false_eq_true, if_false] at hd
            have HD := Lib.hid hd
            have hcnt : cntF cs e = cs[e.toNat]?.getD 0 := by
              unfold cntF
              rw [if_pos ⟨hev0, hev9⟩]
            have HC := Lib.hid hcnt
            generalize cs[e.toNat]?.getD 0 = cv at *
            clear hd h1 h2 h3 hcnt hclen
            go_wp2_with (first | (go_at_call 14; refine HD.out.mono ?_; rintro r w2 ⟨rfl, hr2, hf2⟩; have HR2 := Lib.hid hr2; have HF2 := Lib.hid hf2; have hz2 := hf2.size; have hltA := Nat.lt_of_lt_of_le hbx hz2; have hltB := Nat.lt_of_lt_of_le hbc hz2; obtain ⟨⟨hne, hne1, hne2, hne3, hne4, hne5⟩, hlt0, hlt1, hlt2, hlt3, hlt4⟩ := ne_new (Nat.lt_of_lt_of_le hbx hz2); obtain ⟨⟨hme, hme1, hme2, hme3, hme4, hme5⟩, hmt0, hmt1, hmt2, hmt3, hmt4⟩ := ne_new (Nat.lt_of_lt_of_le hbc hz2); have hx0' := hf2.keep hx0 (fun j => hrbx j.1.symm); have hx1' := hf2.keep hx1 (fun j => hrbx j.1.symm); have hx2' := hf2.keep hx2 (fun j => hrbx j.1.symm); have hx3' := hf2.keep hx3 (fun j => hrbx j.1.symm); have hcv' := hf2.keep hcv (fun j => hrbc j.1.symm); have hxf' : ∀ j, w2.frozen? ⟨bx, j, none⟩ = false := fun j => (hf2.frozen (p := ⟨bx, j, none⟩) hbx).trans (hxf j); have hcf' := (hf2.frozen (p := ⟨bx + 1, e.toNat, none⟩) hbc).trans hcf; clear hr2 hf2) | (go_at_call 17; refine (HDO.out _).mono ?_; rintro r w3 ⟨rfl, o1, o2, o3, rfl⟩))
            have hm := mid_stores (y := ⟨yb, yy, yt, yr⟩) HXA.out HCA.out HR2.out HB.out HF2.out hcl hwbx hrbx hrbc
            have HM : Mid w _ rb bx w2.heap.size s' cs ⟨yb, yy, yt, yr⟩ 101 true := Mid.of4 (t := 33) (o1 := o1) (o2 := o2) (o3 := o3) hm.1 hm.2.1 hm.2.2.1 hm.2.2.2 (by simp)
            clear hm
            generalize hW : World.alloc _ o3 = W at *
            have HXW := HM.x
            have HCW := HM.c
            have HRW := HM.r
            have HBW := HM.b
            have hy0 := HXW.c0
            have hy1 := HXW.c1
            have hy2 := HXW.c2
            have hy3 := HXW.c3
            have hyc : W.cell? ⟨bx + 1, e.toNat, none⟩ = some (.int .i64 cv) := by
              have := HCW.cell e.toNat (by omega)
              have h2 := HC.out
              unfold cntF at h2
              rw [if_pos ⟨hev0, hev9⟩] at h2
              rw [h2] at this
              exact this
            have hf0 := HM.f0
            have hf1 := HM.f1
            have hwf : w2.heap.size < W.heap.size := World.block_lt_of_cell? W _ hf0
            have hwx : bx < W.heap.size := HXW.lt
            have hwc : bx + 1 < W.heap.size := HCW.lt
            have HXW' := Lib.hid HXW
            have HCW' := Lib.hid HCW
            have HRW' := Lib.hid HRW
            have HBW' := Lib.hid HBW
            generalize w2.heap.size = fb at *
            clear HM HXW HCW HRW HBW hW hx0 hx1 hx2 hx3 hcv hcf hxf hbx hbc hne hne1 hne2 hne3 hne4 hne5 hlt0 hlt1 hlt2 hlt3 hlt4 hme hme1 hme2 hme3 hme4 hme5 hmt0 hmt1 hmt2 hmt3 hmt4 hx0' hx1' hx2' hx3' hcv' hxf' hcf' hltA hltB hz2 HR2 HF2
            go_region_held3 (fun w' => w'.cell? ⟨bx, 0, none⟩ = some (.int .i64 yb) ∧ w'.cell? ⟨bx, 1, none⟩ = some (.int .i64 yy) ∧ w'.cell? ⟨bx, 2, none⟩ = some (.int .i64 yt) ∧ w'.cell? ⟨bx, 3, none⟩ = some (.int .i64 yr) ∧ w'.cell? ⟨fb, 0, none⟩ = some (.int .i64 101) ∧ w'.cell? ⟨fb, 1, none⟩ = some (.bool true) ∧ w'.cell? ⟨bx + 1, e.toNat, none⟩ = some (.int .i64 cv)) (go_keep) (first | (go_at_call 18; refine (at_any rb 0 s' cs _ (by repeat (first | exact HRW'.out | apply RunAt.alloc | apply RunAt.drew))).mono ?_; rintro r w4 ⟨rfl, rfl⟩) | (go_at_call 19; refine (HN.out _).mono ?_; rintro r w4 ⟨rfl, rfl⟩) | (go_at_call 15; refine (ok_any _ _ _).mono ?_; rintro r w4 ⟨rfl, rfl⟩) | (go_at_call 16; refine (count_any rb 0 s' cs _ _ (by repeat (first | exact HRW'.out | apply RunAt.alloc | apply RunAt.drew))).mono ?_; rw [HC.out]; rintro r w4 ⟨rfl, rfl⟩))
            go_wp2
            go_roundw
            case rel =>
              have hxn : RS.num ⟨yb, yy, yt, yr⟩ = s' := HXN.out
              exact ⟨k + 1, cs, ⟨yb, yy, yt, yr⟩, by omega, by go_num, HXO.out, by rw [hxn]; repeat (first | exact HRW'.out | apply RunAt.alloc | apply RunAt.drew), by repeat (first | exact HXW'.out | apply XAt.alloc | apply XAt.drew), by repeat (first | exact HCW'.out | apply CAt.alloc | apply CAt.drew), by repeat (first | exact HBW'.out | apply bl_alloc | apply Below.drew)⟩
            case measure => simp [intOf]; omega
          · rw [h1, h2, h3] at hd
            simp only [Bool.false_eq_true, if_false] at hd
            have HD := Lib.hid hd
            have hcnt : cntF cs e = cs[e.toNat]?.getD 0 := by
              unfold cntF
              rw [if_pos ⟨hev0, hev9⟩]
            have HC := Lib.hid hcnt
            generalize cs[e.toNat]?.getD 0 = cv at *
            clear hd h1 h2 h3 hcnt hclen
            go_wp2_with (first | (go_at_call 14; refine HD.out.mono ?_; rintro r w2 ⟨rfl, hr2, hf2⟩; have HR2 := Lib.hid hr2; have HF2 := Lib.hid hf2; have hz2 := hf2.size; have hltA := Nat.lt_of_lt_of_le hbx hz2; have hltB := Nat.lt_of_lt_of_le hbc hz2; obtain ⟨⟨hne, hne1, hne2, hne3, hne4, hne5⟩, hlt0, hlt1, hlt2, hlt3, hlt4⟩ := ne_new (Nat.lt_of_lt_of_le hbx hz2); obtain ⟨⟨hme, hme1, hme2, hme3, hme4, hme5⟩, hmt0, hmt1, hmt2, hmt3, hmt4⟩ := ne_new (Nat.lt_of_lt_of_le hbc hz2); have hx0' := hf2.keep hx0 (fun j => hrbx j.1.symm); have hx1' := hf2.keep hx1 (fun j => hrbx j.1.symm); have hx2' := hf2.keep hx2 (fun j => hrbx j.1.symm); have hx3' := hf2.keep hx3 (fun j => hrbx j.1.symm); have hcv' := hf2.keep hcv (fun j => hrbc j.1.symm); have hxf' : ∀ j, w2.frozen? ⟨bx, j, none⟩ = false := fun j => (hf2.frozen (p := ⟨bx, j, none⟩) hbx).trans (hxf j); have hcf' := (hf2.frozen (p := ⟨bx + 1, e.toNat, none⟩) hbc).trans hcf; clear hr2 hf2) | (go_at_call 17; refine (HDO.out _).mono ?_; rintro r w3 ⟨rfl, o1, o2, o3, rfl⟩))
            have hm := mid_stores (y := ⟨yb, yy, yt, yr⟩) HXA.out HCA.out HR2.out HB.out HF2.out hcl hwbx hrbx hrbc
            have HM : Mid w _ rb bx w2.heap.size s' cs ⟨yb, yy, yt, yr⟩ 105 false := Mid.of4 (t := 33) (o1 := o1) (o2 := o2) (o3 := o3) hm.1 hm.2.1 hm.2.2.1 hm.2.2.2 (by simp)
            clear hm
            generalize hW : World.alloc _ o3 = W at *
            have HXW := HM.x
            have HCW := HM.c
            have HRW := HM.r
            have HBW := HM.b
            have hy0 := HXW.c0
            have hy1 := HXW.c1
            have hy2 := HXW.c2
            have hy3 := HXW.c3
            have hyc : W.cell? ⟨bx + 1, e.toNat, none⟩ = some (.int .i64 cv) := by
              have := HCW.cell e.toNat (by omega)
              have h2 := HC.out
              unfold cntF at h2
              rw [if_pos ⟨hev0, hev9⟩] at h2
              rw [h2] at this
              exact this
            have hf0 := HM.f0
            have hf1 := HM.f1
            have hwf : w2.heap.size < W.heap.size := World.block_lt_of_cell? W _ hf0
            have hwx : bx < W.heap.size := HXW.lt
            have hwc : bx + 1 < W.heap.size := HCW.lt
            have HXW' := Lib.hid HXW
            have HCW' := Lib.hid HCW
            have HRW' := Lib.hid HRW
            have HBW' := Lib.hid HBW
            generalize w2.heap.size = fb at *
            clear HM HXW HCW HRW HBW hW hx0 hx1 hx2 hx3 hcv hcf hxf hbx hbc hne hne1 hne2 hne3 hne4 hne5 hlt0 hlt1 hlt2 hlt3 hlt4 hme hme1 hme2 hme3 hme4 hme5 hmt0 hmt1 hmt2 hmt3 hmt4 hx0' hx1' hx2' hx3' hcv' hxf' hcf' hltA hltB hz2 HR2 HF2
            go_region_held3 (fun w' => w'.cell? ⟨bx, 0, none⟩ = some (.int .i64 yb) ∧ w'.cell? ⟨bx, 1, none⟩ = some (.int .i64 yy) ∧ w'.cell? ⟨bx, 2, none⟩ = some (.int .i64 yt) ∧ w'.cell? ⟨bx, 3, none⟩ = some (.int .i64 yr) ∧ w'.cell? ⟨fb, 0, none⟩ = some (.int .i64 105) ∧ w'.cell? ⟨fb, 1, none⟩ = some (.bool false) ∧ w'.cell? ⟨bx + 1, e.toNat, none⟩ = some (.int .i64 cv)) (go_keep) (first | (go_at_call 18; refine (at_any rb 0 s' cs _ (by repeat (first | exact HRW'.out | apply RunAt.alloc | apply RunAt.drew))).mono ?_; rintro r w4 ⟨rfl, rfl⟩) | (go_at_call 19; refine (HN.out _).mono ?_; rintro r w4 ⟨rfl, rfl⟩) | (go_at_call 15; refine (ok_any _ _ _).mono ?_; rintro r w4 ⟨rfl, rfl⟩) | (go_at_call 16; refine (count_any rb 0 s' cs _ _ (by repeat (first | exact HRW'.out | apply RunAt.alloc | apply RunAt.drew))).mono ?_; rw [HC.out]; rintro r w4 ⟨rfl, rfl⟩))
            go_wp2
            go_roundw
            case rel =>
              have hxn : RS.num ⟨yb, yy, yt, yr⟩ = s' := HXN.out
              exact ⟨k + 1, cs, ⟨yb, yy, yt, yr⟩, by omega, by go_num, HXO.out, by rw [hxn]; repeat (first | exact HRW'.out | apply RunAt.alloc | apply RunAt.drew), by repeat (first | exact HXW'.out | apply XAt.alloc | apply XAt.drew), by repeat (first | exact HCW'.out | apply CAt.alloc | apply CAt.drew), by repeat (first | exact HBW'.out | apply bl_alloc | apply Below.drew)⟩
            case measure => simp [intOf]; omega
        · have hbad := bad_ev (s := x.num) (e := e) (by omega)
          have hcnt : cntF cs e = 0 := by unfold cntF; rw [if_neg hev]
          rw [hbad.1, hbad.2.1, hbad.2.2.1, hbad.2.2.2] at hd
          simp only [Bool.false_eq_true, if_false] at hd
          have hev' : e < 0 ∨ 8 < e := by omega
          have HC := Lib.hid hcnt
          have HD := Lib.hid hd
          have HXA := Lib.hid hxa
          have HCA := Lib.hid hca
          have HB := Lib.hid hb
          have HX := Lib.hid hx
          clear hbad hd hcnt hr hxa hca hb hc hx hrr hev
          rcases hev' with hlo | hhi
          all_goals
            go_wp2_with (first | (go_at_call 14; refine HD.out.mono ?_; rintro r w2 ⟨rfl, hr2, hf2⟩; have HR2 := Lib.hid hr2; have HF2 := Lib.hid hf2; clear hr2 hf2) | (go_at_call 15; refine (ok_any _ _ _).mono ?_; rintro r w3 ⟨rfl, rfl⟩) | (go_at_call 16; refine (count_any _ _ _ _ _ _ (by repeat (first | exact HR2.out | apply RunAt.alloc))).mono ?_; rw [HC.out]; rintro r w4 ⟨rfl, rfl⟩))
            go_roundw
            case rel =>
              exact ⟨k + 1, cs, x, by omega, by go_num, HX.out, by repeat (first | exact HR2.out | apply RunAt.alloc), by repeat (first | exact HXA.out.frm HF2.out (fun j hj => hrbx hj.1.symm) | apply XAt.alloc), by repeat (first | exact HCA.out.frm HF2.out (fun j hj => hrbc hj.1.symm) | apply CAt.alloc), by repeat (first | exact bl_run HB.out HF2.out hcl | apply bl_alloc)⟩
            case measure => simp [intOf]; omega
      · obtain rfl : k = n := by omega
        have HTr := Lib.hid (HT.out.bl hb)
        have HB := Lib.hid hb
        clear hxa hca hb hr hx
        go_wp2_with (go_at_call 12; refine (awake_any _ HTr.out).mono ?_; rintro r w5 ⟨rfl, hb5⟩; have HB5 := Lib.hid hb5; clear hb5)
        go_ret
        exact ⟨rfl, bl_then HB.out HB5.out⟩
end Go.Proofs.YtpihldeikdiniaaDoor
