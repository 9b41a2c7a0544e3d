/- Package squintlaw18: QueueOwn, walked. -/
import Derived.Test.YtpihldeikdiniaaQ17
import Derived.Test.YtpihldeikdiniaaQ13
import Derived.Test.YtpihldeikdiniaaQ7
import Derived.Deep.DeepCutAuto
import Derived.Outline
namespace Go.Proofs.Ytpihldeikdiniaa
open Go.RowKit
set_option linter.unusedVariables false
set_option linter.unusedSimpArgs false
theorem BytesIn.src {ok : Nat → Prop} {w : World} {A : Option Addr} {c : Nat} {l : List UInt8} (h : BytesIn ok w (.slice A l.length c) l) : SrcIn w A l.length 1 (u8s l) where
  len := by simp [u8s]
  nil := fun hA => by
    obtain ⟨A', c', he, _, _, _, hc⟩ := h
    simp only [Value.slice.injEq] at he
    obtain ⟨rfl, _, rfl⟩ := he
    subst hA
    cases hl : l.length with
    | zero => rfl
    | succ n => obtain ⟨b, o, hA, _⟩ := hc (by omega); cases hA
  cells := fun ad hA j u hj => by
    obtain ⟨A', c', he, _, _, _, hc⟩ := h
    simp only [Value.slice.injEq] at he
    obtain ⟨rfl, _, rfl⟩ := he
    subst hA
    unfold u8s at hj
    rw [List.getElem?_map] at hj
    cases hx : l[j]? with
    | none => rw [hx] at hj; cases hj
    | some x =>
      rw [hx] at hj
      have : Value.int .u8 x.toNat = u := by simpa using hj
      subst this
      obtain ⟨b, o, hA, _, hcell⟩ := hc (by have := (List.getElem?_eq_some_iff.1 hx).1; omega)
      obtain rfl := Option.some.inj hA
      rw [Addr.add_lit]; exact hcell j x hx
  one := fun u hu => by
    obtain ⟨x, _, rfl⟩ := List.mem_map.1 hu
    rfl
/-- A row of bytes of the call's own. -/
def OwnB (base : Nat) (w : World) (A : Option Addr) (n cap : Nat) (l : List UInt8) : Prop := n = l.length ∧ n ≤ cap ∧ cap ≤ maxLen ∧ n ≤ 300 ∧ (0 < n → w.ownsRow base 5 1 (.slice A n cap) n (u8s l))
theorem OwnB.bytes {base : Nat} {w : World} {A : Option Addr} {n cap : Nat} {l : List UInt8} (h : OwnB base w A n cap l) : BytesIn (fun k => base ≤ k ∧ k < w.heap.size) w (.slice A n cap) l := by
  obtain ⟨rfl, h1, h2, h3, h4⟩ := h
  refine ⟨A, cap, rfl, h1, h2, by omega, fun h0 => ?_⟩
  have hown := h4 h0
  rcases hown.2 with ⟨he, hz⟩ | ⟨g, cap', cur, he, hb, hg, _⟩
  · omega
  · simp only [Value.slice.injEq] at he
    obtain ⟨rfl, _, rfl⟩ := he
    refine ⟨g, 0, rfl, ⟨hb, (Array.getElem?_eq_some_iff.1 hg).1⟩, fun j x hj => ?_⟩
    have hcells := hown.cells (g := g) rfl j (.int .u8 x.toNat) (by unfold u8s; rw [List.getElem?_map, hj]; rfl)
    rwa [Addr.add_lit] at hcells
theorem OwnB.frm {base : Nat} {S : Nat → Nat → Prop} {w w' : World} {A : Option Addr} {n cap : Nat} {l : List UInt8} (h : OwnB base w A n cap l) (hf : Frm S w w') (hn : ∀ k j, base ≤ k → k < w.heap.size → ¬ S k j) : OwnB base w' A n cap l := by
  obtain ⟨h0, h1, h2, h3, h4⟩ := h
  refine ⟨h0, h1, h2, h3, fun hp => ?_⟩
  have hown := h4 hp
  exact own_frm hown hf (fun k hk j => hn k j (hown.lt k hk).1 (hown.lt k hk).2)
def CutY (W : World) (xn : Int) (xh xb : List UInt8) (s6 : Value) (wx : World) : Prop :=
  ∃ gy A1 p1 A2 p2, s6 = .pointer (some ⟨gy, 0, none⟩) ∧ W.heap.size ≤ gy ∧ wx.cell? ⟨gy, 0, none⟩ = some (.int .i64 xn) ∧ wx.cell? ⟨gy, 1, none⟩ = some (.slice A1 xh.length p1) ∧ wx.cell? ⟨gy, 2, none⟩ = some (.slice A2 xb.length p2) ∧
    OwnB W.heap.size wx A1 xh.length p1 xh ∧ OwnB W.heap.size wx A2 xb.length p2 xb ∧ Frm NoS W wx ∧
    (0 < xh.length → ∀ k, (Value.slice A1 xh.length p1).ownBlock = some k → k ≠ gy ∧ (0 < xb.length → (Value.slice A2 xb.length p2).ownBlock ≠ some k)) ∧ (0 < xb.length → (Value.slice A2 xb.length p2).ownBlock ≠ some gy)
/-- The block of a slice that has something. -/
def OneB (n : Nat) (v : Value) : Nat → Nat → Prop := fun b _ => 0 < n ∧ v.ownBlock = some b
/-- A row of bytes, each one raised, as far as k. -/
def IncRel (base : Nat) (W : World) (A : Option Addr) (n cap : Nat) (i : Value) (wr : World) : Prop :=
  ∃ k, k ≤ n ∧ i = .int .i64 (k : Int) ∧ (∃ l, OwnB base wr A n cap l) ∧ Frm (OneB n (.slice A n cap)) W wr
theorem OwnB.at_ {base : Nat} {w : World} {A : Option Addr} {n cap k : Nat} {l : List UInt8} (h : OwnB base w A n cap l) (hk : k < n) : ∃ (g : Nat) (x : UInt8), A = some ⟨g, 0, none⟩ ∧ g < w.heap.size ∧ base ≤ g ∧ w.cell? ⟨g, k, none⟩ = some (.int .u8 x.toNat) ∧ w.frozen? ⟨g, k, none⟩ = false ∧
    ∀ y : UInt8, OwnB base (w.setCell ⟨g, k, none⟩ (.int .u8 y.toNat)) A n cap (l.set k y) := by
  obtain ⟨h0, h1, h2, h3, h4⟩ := h
  have hown := h4 (by omega)
  obtain ⟨g, cap', he, hb, hg⟩ := World.ownsRow.form hown (by omega)
  simp only [Value.slice.injEq] at he
  obtain ⟨rfl, _, rfl⟩ := he
  have hx : l[k]? = some (l[k]'(by omega)) := List.getElem?_eq_getElem (by omega)
  refine ⟨g, l[k]'(by omega), rfl, hg, hb, ?_, World.ownsRow.frozenAt hown k, fun y => ⟨by simpa using h0, h1, h2, h3, fun _ => ?_⟩⟩
  · rw [World.ownsRow.cellAt hown k (by omega)]; unfold u8s; rw [List.getElem?_map, hx]; rfl
  · have := (World.ownsRow.stored hown k (.int .u8 y.toNat)).1
    unfold u8s
    rw [List.map_set]
    exact this
theorem IncRel.step {base n cap g k : Nat} {W wr : World} {x : UInt8} {l : List UInt8} (hset : ∀ y : UInt8, OwnB base (wr.setCell ⟨g, k, none⟩ (.int .u8 y.toNat)) (some ⟨g, 0, none⟩) n cap (l.set k y))
    (hf : Frm (OneB n (.slice (some ⟨g, 0, none⟩) n cap)) W wr) (hk : k < n) : IncRel base W (some ⟨g, 0, none⟩) n cap (.int .i64 ((k : Int) + 1)) (wr.setCell ⟨g, k, none⟩ (.int .u8 (((x.toNat : Int) + 1) % 256))) := by
  have h1 := hset (x + 1)
  have h2 : (((x + 1 : UInt8).toNat : Nat) : Int) = ((x.toNat : Int) + 1) % 256 := by
    have h3 : (x + 1).toNat = (x.toNat + 1) % 256 := UInt8.toNat_add x 1
    omega
  rw [h2] at h1
  exact ⟨k + 1, hk, by go_num, ⟨_, h1⟩, hf.set_old (p := ⟨g, k, none⟩) ⟨by omega, rfl⟩ _⟩
theorem OwnB.frm2 {base : Nat} {S : Nat → Nat → Prop} {w w' : World} {A : Option Addr} {n cap : Nat} {l : List UInt8} (h : OwnB base w A n cap l) (hf : Frm S w w') (hn : 0 < n → ∀ k j, (Value.slice A n cap).ownBlock = some k → ¬ S k j) : OwnB base w' A n cap l := by
  obtain ⟨h0, h1, h2, h3, h4⟩ := h
  exact ⟨h0, h1, h2, h3, fun hp => own_frm (h4 hp) hf (fun k hk j => hn hp k j hk)⟩
theorem OwnB.lt {base : Nat} {w : World} {A : Option Addr} {n cap : Nat} {l : List UInt8} (h : OwnB base w A n cap l) (hn : 0 < n) : ∀ k, (Value.slice A n cap).ownBlock = some k → base ≤ k ∧ k < w.heap.size := (h.2.2.2.2 hn).lt
theorem BytesIn.set {ok : Nat → Prop} {w : World} {b o n cap k : Nat} {l : List UInt8} (h : BytesIn ok w (.slice (some ⟨b, o, none⟩) n cap) l) (hk : k < n) (y : UInt8) : BytesIn ok (w.setCell ⟨b, o + k, none⟩ (.int .u8 y.toNat)) (.slice (some ⟨b, o, none⟩) n cap) (l.set k y) := by
  obtain ⟨A, c, he, h1, h2, h3, h4⟩ := h
  simp only [Value.slice.injEq] at he
  obtain ⟨rfl, rfl, rfl⟩ := he
  refine ⟨some ⟨b, o, none⟩, cap, by simp, by simpa using h1, h2, by simpa using h3, fun h0 => ?_⟩
  obtain ⟨b', o', he, hok, hc⟩ := h4 (by simpa using h0)
  simp only [Option.some.injEq, Addr.mk.injEq, and_true] at he
  obtain ⟨rfl, rfl⟩ := he
  refine ⟨b, o, rfl, hok, fun j x hj => ?_⟩
  rw [List.getElem?_set] at hj
  by_cases e : k = j
  · subst e
    rw [if_pos rfl, if_pos hk] at hj
    obtain rfl := Option.some.inj hj
    exact World.cell?_setCell_same _ _ _ (hc k _ (List.getElem?_eq_getElem hk))
  · rw [if_neg e] at hj
    rw [World.cell?_setCell_other _ _ _ _ (by simp <;> omega)]
    exact hc j x hj
/-- The cells of a slice. -/
def SlcS (A : Option Addr) (n : Nat) : Nat → Nat → Prop := fun k j => ∃ o, A = some ⟨k, o, none⟩ ∧ o ≤ j ∧ j < o + n
/-- The same, of bytes that are read anywhere. -/
def IncRel2 (ok : Nat → Prop) (W : World) (A : Option Addr) (n cap : Nat) (i : Value) (wr : World) : Prop :=
  ∃ k, k ≤ n ∧ i = .int .i64 (k : Int) ∧ (∃ l, l.length = n ∧ BytesIn ok wr (.slice A n cap) l) ∧ Frm (SlcS A n) W wr
theorem BytesIn.byte {ok : Nat → Prop} {w : World} {A : Option Addr} {n cap k : Nat} {l : List UInt8} (h : BytesIn ok w (.slice A n cap) l) (hk : k < n) : ∃ (b o : Nat) (x : UInt8), A = some ⟨b, o, none⟩ ∧ ok b ∧ w.cell? ⟨b, o + k, none⟩ = some (.int .u8 x.toNat) := by
  obtain ⟨A', c, he, h1, h2, h3, h4⟩ := h
  simp only [Value.slice.injEq] at he
  obtain ⟨rfl, rfl, rfl⟩ := he
  obtain ⟨b, o, rfl, hok, hc⟩ := h4 (by omega)
  exact ⟨b, o, _, rfl, hok, hc k _ (List.getElem?_eq_getElem hk)⟩
theorem IncRel2.step {ok : Nat → Prop} {b o n cap k : Nat} {W wr : World} {x : UInt8} {l : List UInt8} (hl : l.length = n) (hb : BytesIn ok wr (.slice (some ⟨b, o, none⟩) n cap) l)
    (hf : Frm (SlcS (some ⟨b, o, none⟩) n) W wr) (hk : k < n) : IncRel2 ok W (some ⟨b, o, none⟩) n cap (.int .i64 ((k : Int) + 1)) (wr.setCell ⟨b, o + k, none⟩ (.int .u8 (((x.toNat : Int) + 1) % 256))) := by
  have h1 := hb.set hk (x + 1)
  have h2 : (((x + 1 : UInt8).toNat : Nat) : Int) = ((x.toNat : Int) + 1) % 256 := by
    have h3 : (x + 1).toNat = (x.toNat + 1) % 256 := UInt8.toNat_add x 1
    omega
  rw [h2] at h1
  exact ⟨k + 1, hk, by go_num, ⟨_, by simpa using hl, h1⟩, hf.set_old (p := ⟨b, o + k, none⟩) ⟨o, rfl, Nat.le_add_right _ _, by show o + k < o + n; omega⟩ _⟩
theorem own_base {w : World} {b b' : Nat} {e : TypeId} {size n : Nat} {v : Value} {xs : List Value} (h : w.ownsRow b e size v n xs) (hb : b' ≤ b) : w.ownsRow b' e size v n xs := by
  refine ⟨h.1, ?_⟩
  rcases h.2 with hn' | ⟨g, cap, cur, rfl, hbg, rest⟩
  · exact .inl hn'
  · exact .inr ⟨g, cap, cur, rfl, Nat.le_trans hb hbg, rest⟩
theorem cutY_fin {W3 Wz w4 : World} {xn : Int} {xh xb : List UInt8} {B b1 b2 p1 p2 : Nat} {ad1 ad2 : Addr} {z0 z1 z2 : Value} (hl1 : xh.length ≤ 300) (hl2 : xb.length ≤ 300) (hB : W3.heap.size ≤ B) (e0 : Wz.cell? ⟨B, 0, none⟩ = some z0) (e1 : Wz.cell? ⟨B, 1, none⟩ = some z1) (e2 : Wz.cell? ⟨B, 2, none⟩ = some z2)
    (hF : Frm NoS W3 Wz) (hF4 : Frm NoS w4 Wz) (hp1 : xh.length ≤ p1) (hm1 : p1 ≤ maxLen) (hp2 : xb.length ≤ p2) (hm2 : p2 ≤ maxLen)
    (h1 : 0 < xh.length → w4.ownsRow b1 5 1 (.slice (some ad1) xh.length p1) xh.length (u8s xh)) (h2 : 0 < xb.length → Wz.ownsRow b2 5 1 (.slice (some ad2) xb.length p2) xb.length (u8s xb))
    (hb1 : W3.heap.size ≤ b1) (hb2 : w4.heap.size ≤ b2) (hb3 : W3.heap.size ≤ w4.heap.size) (hne1 : B < b1 ∨ w4.heap.size ≤ B) (hne2 : 0 < xb.length → B < b2 ∨ ad2.block < B) :
    CutY W3 xn xh xb (.pointer (some ⟨B, 0, none⟩)) (((Wz.setCell ⟨B, 0, none⟩ (.int .i64 xn)).setCell ⟨B, 1, none⟩ (.slice (some ad1) xh.length p1)).setCell ⟨B, 2, none⟩ (.slice (some ad2) xb.length p2)) := by
  have hset : Frm (fun k _ => k = B) Wz (((Wz.setCell ⟨B, 0, none⟩ (.int .i64 xn)).setCell ⟨B, 1, none⟩ (.slice (some ad1) xh.length p1)).setCell ⟨B, 2, none⟩ (.slice (some ad2) xb.length p2)) :=
    (((Frm.refl _ _).set_old (p := ⟨B, 0, none⟩) rfl _).set_old (p := ⟨B, 1, none⟩) rfl _).set_old (p := ⟨B, 2, none⟩) rfl _
  have ad1b : ∀ k, (Value.slice (some ad1) xh.length p1).ownBlock = some k → ad1.block = k := fun k hk => by simpa [Value.ownBlock] using hk
  have ad2b : ∀ k, (Value.slice (some ad2) xb.length p2).ownBlock = some k → ad2.block = k := fun k hk => by simpa [Value.ownBlock] using hk
  refine ⟨B, some ad1, p1, some ad2, p2, rfl, hB, ?_, ?_, ?_, ⟨rfl, hp1, hm1, hl1, fun h => ?_⟩, ⟨rfl, hp2, hm2, hl2, fun h => ?_⟩, ?_, fun h k hk => ?_, fun h hk => ?_⟩
  · exact (World.cell?_setCell_other _ _ _ _ (by simp)).trans ((World.cell?_setCell_other _ _ _ _ (by simp)).trans (World.cell?_setCell_same _ _ _ e0))
  · exact (World.cell?_setCell_other _ _ _ _ (by simp)).trans (World.cell?_setCell_same _ _ _ ((World.cell?_setCell_other _ _ _ _ (by simp)).trans e1))
  · exact World.cell?_setCell_same _ _ _ ((World.cell?_setCell_other _ _ _ _ (by simp)).trans ((World.cell?_setCell_other _ _ _ _ (by simp)).trans e2))
  · have h4 := h1 h
    refine own_base (own_frm (own_frm h4 hF4 (fun _ _ _ h => h)) hset (fun k hk j hS => ?_)) hb1
    have := h4.lt k hk
    have e : k = B := hS
    omega
  · have h4 := h2 h
    refine own_base (own_frm h4 hset (fun k hk j hS => ?_)) (Nat.le_trans hb3 hb2)
    have := h4.lt k hk
    have e : k = B := hS
    have := ad2b k hk
    have := hne2 h
    omega
  · exact hF.then_ hset (fun b _ hb hS => by have e : b = B := hS; omega)
  · have h4 := h1 h
    have := h4.lt k hk
    refine ⟨by omega, fun h' hk2 => ?_⟩
    have := (h2 h').lt k hk2
    omega
  · have := (h2 h).lt B hk
    have := ad2b B hk
    have := hne2 h
    omega
theorem cutY_new {W3 Wz w4 : World} {xn : Int} {xh xb : List UInt8} {B b1 b2 p1 p2 : Nat} {ad1 ad2 : Addr} (hBe : B = Wz.heap.size) (hl1 : xh.length ≤ 300) (hl2 : xb.length ≤ 300)
    (hF : Frm NoS W3 Wz) (hF4 : Frm NoS w4 Wz) (hp1 : xh.length ≤ p1) (hm1 : p1 ≤ maxLen) (hp2 : xb.length ≤ p2) (hm2 : p2 ≤ maxLen)
    (h1 : 0 < xh.length → w4.ownsRow b1 5 1 (.slice (some ad1) xh.length p1) xh.length (u8s xh)) (h2 : 0 < xb.length → Wz.ownsRow b2 5 1 (.slice (some ad2) xb.length p2) xb.length (u8s xb))
    (hb1 : W3.heap.size ≤ b1) (hb2 : w4.heap.size ≤ b2) (hb3 : W3.heap.size ≤ w4.heap.size) :
    CutY W3 xn xh xb (.pointer (some ⟨B, 0, none⟩)) (Wz.alloc (.cells #[.int .i64 xn, .slice (some ad1) xh.length p1, .slice (some ad2) xb.length p2] 57)) := by
  subst hBe
  have ad1b : ∀ k, (Value.slice (some ad1) xh.length p1).ownBlock = some k → ad1.block = k := fun k hk => by simpa [Value.ownBlock] using hk
  have ad2b : ∀ k, (Value.slice (some ad2) xb.length p2).ownBlock = some k → ad2.block = k := fun k hk => by simpa [Value.ownBlock] using hk
  refine ⟨Wz.heap.size, some ad1, p1, some ad2, p2, rfl, hF.size, World.cell?_alloc_at _ _ _ _ rfl, World.cell?_alloc_at _ _ _ _ rfl, World.cell?_alloc_at _ _ _ _ rfl, ⟨rfl, hp1, hm1, hl1, fun h => ?_⟩, ⟨rfl, hp2, hm2, hl2, fun h => ?_⟩, hF.alloc _, fun h k hk => ?_, fun h hk => ?_⟩
  · exact own_base (own_frm (h1 h) (hF4.alloc _) (fun _ _ _ h => h)) hb1
  · exact own_base ((h2 h).alloc _) (Nat.le_trans hb3 hb2)
  · have h4 := h1 h
    have := h4.lt k hk
    have hz := hF4.size
    refine ⟨by omega, fun h' hk2 => ?_⟩
    have := (h2 h').lt k hk2
    omega
  · have := (h2 h).lt _ hk
    omega
set_option maxRecDepth 100000 in
set_option maxHeartbeats 6400000 in
theorem queueOwn_walk {ok : Nat → Prop} {hv bv : Value} (x : QI) (w : World) (hh : BytesIn ok w hv x.h) (hb : BytesIn ok w bv x.b) :
    Calls Try.prog 6 #[.agg #[.int .i64 x.num, hv, bv]] w fun e w' => e = .returned (.bool true) ∧ Below w.heap.size w w' := by
  by_cases hbig : 300 < x.h.length ∨ 300 < x.b.length
  · obtain ⟨A, c, rfl, h1, h2, h3, _⟩ := hh
    obtain ⟨A', c', rfl, k1, k2, k3, _⟩ := hb
    obtain ⟨xn, xh, xb⟩ := x
    simp only at *
    have hd : 300 < xh.length ∨ (¬ 300 < xh.length ∧ 300 < xb.length) := by omega
    clear hbig
    rcases hd with hd | ⟨hd, hd2⟩
    all_goals
      go_enter Try.func6, Try.ntmps6
      go_wp2_with (go_at_call 31; refine (awake18_any _).mono ?_; rintro r w4 ⟨rfl, hb4⟩; have HB4 := Lib.hid hb4; clear hb4)
      go_ret
      exact ⟨rfl, bl_then (bl_alloc (Below.refl _ _) _) HB4.out⟩
  · have hl1 : x.h.length ≤ 300 := by omega
    have hl2 : x.b.length ≤ 300 := by omega
    clear hbig
    have H1 : Hid (∀ W, Frm NoS w W → BytesIn ok W hv x.h) := fun W hf => hh.frm hf (fun _ _ _ h => h)
    have H2 : Hid (∀ W, Frm NoS w W → BytesIn ok W bv x.b) := fun W hf => hb.frm hf (fun _ _ _ h => h)
    obtain ⟨A, c, rfl, _⟩ := hh
    obtain ⟨A', c', rfl, _⟩ := hb
    obtain ⟨xn, xh, xb⟩ := x
    simp only at hl1 hl2
    obtain ⟨W1, hW1⟩ : ∃ W1, W1 = w.alloc (.cells #[.int .i64 xn, .slice A xh.length c, .slice A' xb.length c'] 57) := ⟨_, rfl⟩
    have hF1 : Frm NoS w W1 := by rw [hW1]; exact Frm.alloc (Frm.refl _ _) _
    have c0 : W1.cell? ⟨w.heap.size, 0, none⟩ = some (.int .i64 xn) := by rw [hW1]; exact World.cell?_alloc_at _ _ _ _ rfl
    have c1 : W1.cell? ⟨w.heap.size, 1, none⟩ = some (.slice A xh.length c) := by rw [hW1]; exact World.cell?_alloc_at _ _ _ _ rfl
    have c2 : W1.cell? ⟨w.heap.size, 2, none⟩ = some (.slice A' xb.length c') := by rw [hW1]; exact World.cell?_alloc_at _ _ _ _ rfl
    have HC := Lib.hid (And.intro c0 (And.intro c1 c2))
    have HLW := Lib.hid (show w.heap.size < W1.heap.size from World.block_lt_of_cell? W1 _ c0)
    go_enter Try.func6, Try.ntmps6
    go_wp2_with fail
    rw [← hW1]
    have HF1 := Lib.hid hF1
    have HZ1 := Lib.hid hF1.size
    clear hW1 hF1
    refine (new_yes 1 1000 5 W1 ⟨by omega, by omega, by omega⟩).mono ?_
    rintro r w1 ⟨q, bl, tg, rfl, hq, htg, hb⟩
    have HQ := Lib.hid hq
    have HTG : Hid (∀ k, k < W1.heap.size → tg k = 0) := fun k hk => by
      by_cases e : tg k = 0
      · exact e
      · have := htg k e; omega
    have HB := Lib.hid hb
    have HF2 : Hid (Frm NoS w w1) := HF1.out.trans (Frm.of_below hb)
    have c0 := (Frm.of_below (S := NoS) hb).keep c0 (fun h => h)
    have c1 := (Frm.of_below (S := NoS) hb).keep c1 (fun h => h)
    have c2 := (Frm.of_below (S := NoS) hb).keep c2 (fun h => h)
    clear hq htg hb HC HF1
    go_wp2_with fail
    refine (ref_any ⟨xn, xh, xb⟩ w1 (H1.out _ HF2.out) (H2.out _ HF2.out)).mono ?_
    rintro r w2 ⟨rfl, hw2⟩
    have hF3 : Frm NoS w1 w2 := by rw [hw2]; exact Frm.alloc (Frm.alloc (Frm.refl _ _) _) _
    clear hw2
    have HF3 := Lib.hid (HF2.out.trans hF3)
    have HF13 := Lib.hid hF3
    have c0 := hF3.keep c0 (fun h => h)
    have c1 := hF3.keep c1 (fun h => h)
    have c2 := hF3.keep c2 (fun h => h)
    clear hF3
    unfold refV
    go_upto_region 5 with fail
    obtain ⟨W3, hW3⟩ : ∃ W3, W3 = w2.alloc (.cells #[.int .i64 xn, .string ⟨xh.toArray⟩, .string ⟨xb.toArray⟩] 62) := ⟨_, rfl⟩
    rw [← hW3]
    have hF23 : Frm NoS w2 W3 := by rw [hW3]; exact Frm.alloc (Frm.refl _ _) _
    have HR : Hid (W3.cell? ⟨w2.heap.size, 0, none⟩ = some (.int .i64 xn) ∧ W3.cell? ⟨w2.heap.size, 1, none⟩ = some (.string ⟨xh.toArray⟩) ∧ W3.cell? ⟨w2.heap.size, 2, none⟩ = some (.string ⟨xb.toArray⟩)) := by
      unfold Hid; rw [hW3]; exact ⟨World.cell?_alloc_at _ _ _ _ rfl, World.cell?_alloc_at _ _ _ _ rfl, World.cell?_alloc_at _ _ _ _ rfl⟩
    have HFB := Lib.hid (HF3.out.trans hF23)
    have c0 := hF23.keep c0 (fun h => h)
    have c1 := hF23.keep c1 (fun h => h)
    have c2 := hF23.keep c2 (fun h => h)
    have hlt : w.heap.size < W3.heap.size := World.block_lt_of_cell? W3 _ c0
    obtain ⟨⟨hne, hne1, hne2, hne3, hne4, hne5⟩, hlt1, hlt2, hlt3, hlt4, hlt5⟩ := ne_new hlt
    obtain ⟨i0, hi, hz0, hz1, hz2⟩ := info_parts Try.infoU8
    clear hW3 HF3
    go_cut [6] (fun s6 wx => CutY W3 xn xh xb s6 wx)
    case first =>
      have KEEP3 : Hid (∀ w', Frm NoS W3 w' → w'.cell? ⟨w.heap.size, 0, none⟩ = some (.int .i64 xn) ∧ w'.cell? ⟨w.heap.size, 1, none⟩ = some (.slice A xh.length c) ∧ w'.cell? ⟨w.heap.size, 2, none⟩ = some (.slice A' xb.length c') ∧ Frm NoS W3 w') := fun w' hf => ⟨hf.keep c0 (fun h => h), hf.keep c1 (fun h => h), hf.keep c2 (fun h => h), hf⟩
      go_region_held3 (fun w' => w'.cell? ⟨w.heap.size, 0, none⟩ = some (.int .i64 xn) ∧ w'.cell? ⟨w.heap.size, 1, none⟩ = some (.slice A xh.length c) ∧ w'.cell? ⟨w.heap.size, 2, none⟩ = some (.slice A' xb.length c') ∧ Frm NoS W3 w') ((first | exact hN5 | exact hN4 | (refine KEEP3.out _ ?_; first | exact (Frm.refl NoS W3).drew | exact ‹_ ∧ _ ∧ _ ∧ Frm NoS W3 _›.2.2.2.alloc _ | exact hN4.2.2.2.alloc _ | exact hN5.2.2.2.alloc _ | (refine Frm.set_new (Frm.set_new (Frm.set_new hN5.2.2.2 ?_ _) ?_ _) ?_ _ <;> ((try dsimp only); omega))))) (first | (have hS := ‹_ ∧ _ ∧ _ ∧ Frm NoS W3 _›; refine step_append_empty _ (by rfl) _ _ 55 (by rfl) 5 i0 (.int .u8 0) 1 1 Try.underlying55 hi hz0 hz1 hz2 rfl (by decide) _ (by rfl) A xh.length c (u8s xh) (by rfl) ((H1.out _ (HFB.out.trans hS.2.2.2)).src) (by unfold maxLen; omega) (by omega) ?_; intro ad1 p1 w4 hp1 hm1 ho1 hg1; have hG1 := grown_none hg1; have hN4 := And.intro (hG1.keep hS.1 (fun h => h)) (And.intro (hG1.keep hS.2.1 (fun h => h)) (And.intro (hG1.keep hS.2.2.1 (fun h => h)) (hS.2.2.2.trans hG1))); have hs14 : W3.heap.size ≤ w4.heap.size := hN4.2.2.2.size; have hlw : w.heap.size < w4.heap.size := World.block_lt_of_cell? w4 _ hN4.1; obtain ⟨⟨mne, mne1, mne2, mne3, mne4, mne5⟩, mlt1, mlt2, mlt3, mlt4, mlt5⟩ := ne_new hlw; obtain ⟨hk4, hf4⟩ := bcell hG1.no; (try (have ea0 := hk4 (W3.heap.size) 0; have fa0 := hf4 (W3.heap.size) 0; simp [go_sem] at ea0 fa0)); (try (have ea1 := hk4 (W3.heap.size) 1; have fa1 := hf4 (W3.heap.size) 1; simp [go_sem] at ea1 fa1)); (try (have ea2 := hk4 (W3.heap.size) 2; have fa2 := hf4 (W3.heap.size) 2; simp [go_sem] at ea2 fa2)); (try (have eb0 := hk4 (W3.heap.size + 1) 0; have fb0 := hf4 (W3.heap.size + 1) 0; simp [go_sem] at eb0 fb0)); (try (have eb1 := hk4 (W3.heap.size + 1) 1; have fb1 := hf4 (W3.heap.size + 1) 1; simp [go_sem] at eb1 fb1)); (try (have eb2 := hk4 (W3.heap.size + 1) 2; have fb2 := hf4 (W3.heap.size + 1) 2; simp [go_sem] at eb2 fb2)); (try (have ec0 := hk4 (W3.heap.size + 1 + 1) 0; have fc0 := hf4 (W3.heap.size + 1 + 1) 0; simp [go_sem] at ec0 fc0)); (try (have ec1 := hk4 (W3.heap.size + 1 + 1) 1; have fc1 := hf4 (W3.heap.size + 1 + 1) 1; simp [go_sem] at ec1 fc1)); (try (have ec2 := hk4 (W3.heap.size + 1 + 1) 2; have fc2 := hf4 (W3.heap.size + 1 + 1) 2; simp [go_sem] at ec2 fc2)); have HG1 := Lib.hid hG1; have HO1 := Lib.hid ho1; clear hG1 hg1 ho1 hk4 hf4 hS) | (have hS := ‹_ ∧ _ ∧ _ ∧ Frm NoS W3 _›; refine step_append_empty _ (by rfl) _ _ 55 (by rfl) 5 i0 (.int .u8 0) 1 1 Try.underlying55 hi hz0 hz1 hz2 rfl (by decide) _ (by rfl) A' xb.length c' (u8s xb) (by rfl) ((H2.out _ (HFB.out.trans hS.2.2.2)).src) (by unfold maxLen; omega) (by omega) ?_; intro ad2 p2 w5 hp2 hm2 ho2 hg2; have hg2' := grown_none hg2; have hN5 := And.intro (hg2'.keep hS.1 (fun h => h)) (And.intro (hg2'.keep hS.2.1 (fun h => h)) (And.intro (hg2'.keep hS.2.2.1 (fun h => h)) (hS.2.2.2.trans hg2'))); have hG2 : Frm NoS w4 w5 := (by repeat (first | exact Frm.refl _ _ | apply Frm.alloc | apply Frm.drew) : Frm NoS w4 _).trans hg2'; obtain ⟨hk5, hf5⟩ := bcell hg2'.no; (try (have fa0 := hG2.keepf ea0 fa0 (j := 0) (fun h => h); have ea0 := hG2.keep ea0 (fun h => h))); (try (have fa1 := hG2.keepf ea1 fa1 (j := 0) (fun h => h); have ea1 := hG2.keep ea1 (fun h => h))); (try (have fa2 := hG2.keepf ea2 fa2 (j := 0) (fun h => h); have ea2 := hG2.keep ea2 (fun h => h))); (try (have fb0 := hG2.keepf eb0 fb0 (j := 0) (fun h => h); have eb0 := hG2.keep eb0 (fun h => h))); (try (have fb1 := hG2.keepf eb1 fb1 (j := 0) (fun h => h); have eb1 := hG2.keep eb1 (fun h => h))); (try (have fb2 := hG2.keepf eb2 fb2 (j := 0) (fun h => h); have eb2 := hG2.keep eb2 (fun h => h))); (try (have fc0 := hG2.keepf ec0 fc0 (j := 0) (fun h => h); have ec0 := hG2.keep ec0 (fun h => h))); (try (have fc1 := hG2.keepf ec1 fc1 (j := 0) (fun h => h); have ec1 := hG2.keep ec1 (fun h => h))); (try (have fc2 := hG2.keepf ec2 fc2 (j := 0) (fun h => h); have ec2 := hG2.keep ec2 (fun h => h))); (try (have ed0 := hk5 (w4.heap.size) 0; have fd0 := hf5 (w4.heap.size) 0; simp [go_sem] at ed0 fd0)); (try (have ed1 := hk5 (w4.heap.size) 1; have fd1 := hf5 (w4.heap.size) 1; simp [go_sem] at ed1 fd1)); (try (have ed2 := hk5 (w4.heap.size) 2; have fd2 := hf5 (w4.heap.size) 2; simp [go_sem] at ed2 fd2)); (try (have ee0 := hk5 (w4.heap.size + 1) 0; have fe0 := hf5 (w4.heap.size + 1) 0; simp [go_sem] at ee0 fe0)); (try (have ee1 := hk5 (w4.heap.size + 1) 1; have fe1 := hf5 (w4.heap.size + 1) 1; simp [go_sem] at ee1 fe1)); (try (have ee2 := hk5 (w4.heap.size + 1) 2; have fe2 := hf5 (w4.heap.size + 1) 2; simp [go_sem] at ee2 fe2)); have HG2 := Lib.hid hg2'; have HO2 := Lib.hid ho2; have HH2 := Lib.hid hG2; clear hG2 hg2' hg2 ho2 hk5 hf5 hS))
      all_goals
        go_wp2_with fail
        go_meet
        have hg2 := HG2.out
        have hz2 := hg2.size
        have hz1 := HG1.out.size
        simp at hz1 hz2
        first
          | (with_reducible apply cutY_new (w4 := w4) (b1 := _) (b2 := _) (h1 := HO1.out) (h2 := HO2.out) (hl1 := hl1) (hl2 := hl2) (hF := hN5.2.2.2) (hF4 := HH2.out) (hp1 := hp1) (hm1 := hm1) (hp2 := hp2) (hm2 := hm2))
            · first | rfl | (simp; done)
            · simp <;> omega
            · simp <;> omega
            · omega
          | (with_reducible apply cutY_fin (w4 := w4) (b1 := _) (b2 := _) (h1 := HO1.out) (h2 := HO2.out) (hl1 := hl1) (hl2 := hl2) (hF := hN5.2.2.2) (hF4 := HH2.out) (hp1 := hp1) (hm1 := hm1) (hp2 := hp2) (hm2 := hm2))
            · omega
            · assumption
            · assumption
            · assumption
            · simp <;> omega
            · simp <;> omega
            · omega
            · simp <;> omega
            · intro h
              have := (HO2.out h).lt ad2.block rfl
              (try simp at this ⊢) <;> omega
    case rest =>
      have hw1 := HF13.out.trans (hF23)
      have HX3 := Lib.hid (And.intro c0 (And.intro c1 c2))
      clear c0 c1 c2
      obtain ⟨gy, A1, p1, A2, p2, rfl, hgy, y0, y1, y2, hb1, hb2, hfc, hd1, hd2⟩ := hcut
      have hf1c : Frm NoS w1 wc := hw1.trans hfc
      have htz : ∀ k, w1.heap.size ≤ k → tg k = 0 := fun k hk => by
        by_cases e : tg k = 0
        · exact e
        · have := HQ.out.lt k e; omega
      have hz1 : w1.heap.size ≤ W3.heap.size := hw1.size
      have HQc := Lib.hid (HQ.out.frm hf1c (fun _ _ _ h => h))
      have HPUT := Lib.hid (put_yes 0 ⟨xn, xh, xb⟩ wc HQc.out hb1.bytes hb2.bytes (by omega) (by omega) (by simp) (by simp [qbytes, QI.size]; omega))
      have HL1 := Lib.hid (fun h => hb1.lt h)
      have HL2 := Lib.hid (fun h => hb2.lt h)
      have HB1 := Lib.hid hb1
      have HB2 := Lib.hid hb2
      have HD1 := Lib.hid hd1
      have HD2 := Lib.hid hd2
      have HFc := Lib.hid (HFB.out.trans hfc)
      have HRc := Lib.hid (And.intro (hfc.keep HR.out.1 (fun h => h)) (And.intro (hfc.keep HR.out.2.1 (fun h => h)) (hfc.keep HR.out.2.2 (fun h => h))))
      have HXc := Lib.hid (And.intro (hfc.keep HX3.out.1 (fun h => h)) (And.intro (hfc.keep HX3.out.2.1 (fun h => h)) (hfc.keep HX3.out.2.2 (fun h => h))))
      have HTZ1 := Lib.hid htz
      have HTZ : Hid (∀ k, W3.heap.size ≤ k → tg k = 0) := fun k hk => htz k (by omega)
      clear hb1 hb2 hd1 hd2 hfc hw1 hF23 htz hf1c
      go_wp2_with fail
      refine HPUT.out.mono ?_
      rintro r w6 ⟨tg6, rfl, hq6, ht6, hf6⟩
      have hn6 : ∀ k, W3.heap.size ≤ k → ¬ (tg k = 2 ∨ tg k = 4 + Int.toNat 0) := fun k hk => by have := HTZ.out k hk; omega
      have y0 := hf6.keep y0 (fun hS => hn6 gy hgy hS)
      have y1 := hf6.keep y1 (fun hS => hn6 gy hgy hS)
      have y2 := hf6.keep y2 (fun hS => hn6 gy hgy hS)
      have HB1 := Lib.hid (HB1.out.frm hf6 (fun k j hk _ hS => hn6 k hk hS))
      have HB2 := Lib.hid (HB2.out.frm hf6 (fun k j hk _ hS => hn6 k hk hS))
      have HT6 : Hid (∀ k, W3.heap.size ≤ k → k < wc.heap.size → tg6 k = 0) := fun k hk hk2 => by rw [ht6 k hk2]; exact HTZ.out k hk
      have HT6z : Hid (∀ k, (k = w2.heap.size ∨ k < w.heap.size) → tg6 k = 0) := fun k hk => by
        have hw2 : w2.heap.size < W3.heap.size := World.block_lt_of_cell? W3 _ HR.out.1
        have hw12 : w1.heap.size ≤ w2.heap.size := HF13.out.size
        have hz3 : w.heap.size ≤ W3.heap.size := HFB.out.size
        have hgw : gy < wc.heap.size := World.block_lt_of_cell? wc _ ‹wc.cell? ⟨gy, 0, none⟩ = _›
        rw [ht6 k (by omega)]
        rcases hk with rfl | hk
        · exact HTZ1.out _ hw12
        · exact HTG.out k (Nat.lt_of_lt_of_le hk HZ1.out)
      have HQ6 := Lib.hid hq6
      have HF6 := Lib.hid hf6
      have hgyw : gy < wc.heap.size := World.block_lt_of_cell? wc _ ‹wc.cell? ⟨gy, 0, none⟩ = _›
      clear hq6 hf6 ht6 hn6 HPUT
      go_wp2_with fail
      go_loopw [57] (fun i wr => IncRel W3.heap.size w6 A1 xh.length p1 i wr) (fun i _ => xh.length - (intOf i).toNat)
      case atStart => exact ⟨0, Nat.zero_le _, rfl, ⟨_, HB1.out⟩, Frm.refl _ _⟩
      case round =>
        obtain ⟨k, hk, rfl, ⟨l, hl⟩, hf⟩ := hrel
        by_cases hlt : k < xh.length
        · obtain ⟨g, x, rfl, hgl, hgb, hgc, hgf, hset⟩ := hl.at_ hlt
          have hgne : g ≠ gy := (HD1.out (by omega) g rfl).1
          have HSET := Lib.hid hset
          have HF := Lib.hid hf
          have z1 := hf.keep y1 (fun hS => hgne (by have := hS.2; simpa [Value.ownBlock] using this))
          clear hl hset hf
          go_wp2_with fail
          go_roundw
          case measure => simp [intOf]; omega
          case rel => exact IncRel.step HSET.out HF.out hlt
        · obtain rfl : k = xh.length := by omega
          have hS1 : ∀ j, ¬ OneB xh.length (.slice A1 xh.length p1) gy j := fun j hS => (HD1.out hS.1 gy hS.2).1 rfl
          have HF7 := Lib.hid hf
          have y0 := hf.keep y0 (hS1 _)
          have y1 := hf.keep y1 (hS1 _)
          have y2 := hf.keep y2 (hS1 _)
          have HB2 := Lib.hid (HB2.out.frm2 hf (fun h0 k j hk hS => (HD1.out hS.1 k hS.2).2 h0 hk))
          clear hl hf HB1 hS1
          go_wp2_with fail
          obtain ⟨w7, rfl⟩ : ∃ w7 : World, w7 = wr := ⟨_, rfl⟩
          go_loopw [71] (fun i wr => IncRel W3.heap.size w7 A2 xb.length p2 i wr) (fun i _ => xb.length - (intOf i).toNat)
          case atStart => exact ⟨0, Nat.zero_le _, rfl, ⟨_, HB2.out⟩, Frm.refl _ _⟩
          case round =>
            obtain ⟨k, hk, rfl, ⟨l, hl⟩, hf⟩ := hrel
            by_cases hlt : k < xb.length
            · obtain ⟨g, x, rfl, hgl, hgb, hgc, hgf, hset⟩ := hl.at_ hlt
              have hgne : g ≠ gy := fun e => HD2.out (by omega) (by rw [e]; rfl)
              have HSET := Lib.hid hset
              have HF := Lib.hid hf
              have z2 := hf.keep y2 (fun hS => hgne (by have := hS.2; simpa [Value.ownBlock] using this))
              clear hl hset hf
              go_wp2_with fail
              go_roundw
              case measure => simp [intOf]; omega
              case rel => exact IncRel.step HSET.out HF.out hlt
            · obtain rfl : k = xb.length := by omega
              obtain ⟨w8, rfl⟩ : ∃ w8 : World, w8 = wr := ⟨_, rfl⟩
              have HF8 := Lib.hid hf
              clear hl hf HB2 y0 y1 y2
              have hn8 : Frm (fun b _ => W3.heap.size ≤ b ∧ b < wc.heap.size) w6 w8 := (HF7.out.mono (fun b j _ hS => HL1.out hS.1 b hS.2)).trans (HF8.out.mono (fun b j _ hS => HL2.out hS.1 b hS.2))
              have HQ8 := Lib.hid (HQ6.out.frm hn8 (fun k j hk hS => hk (HT6.out k hS.1 hS.2)))
              have HF68 := Lib.hid hn8
              have HFI := Lib.hid (first_yes 0 ⟨xn, xh, xb⟩ [] w8 HQ8.out (by simp [mAt]))
              clear hn8 HF7 HF8
              go_wp2_with fail
              refine HFI.out.mono ?_
              rintro r w9 ⟨zh, zb, rfl, hit, ⟨A9, c9, rfl⟩, ⟨A10, c10, rfl⟩, hb9, hfr9, hfr10⟩
              have hF9 : Frm NoS w8 w9 := Frm.of_below hb9
              have hz3 : w.heap.size ≤ W3.heap.size := HFB.out.size
              have hFw6 : Frm NoS w w6 := HFc.out.then_ HF6.out (fun b j hb hS => by have := HTG.out b (Nat.lt_of_lt_of_le hb HZ1.out); omega)
              have hFw9 : Frm NoS w w9 := (hFw6.then_ HF68.out (fun b j hb hS => absurd hS.1 (by omega))).trans hF9
              have hw2 : w2.heap.size < W3.heap.size := World.block_lt_of_cell? W3 _ HR.out.1
              have hw3 : w.heap.size < W3.heap.size := World.block_lt_of_cell? W3 _ HX3.out.1
              have hw12 : w1.heap.size ≤ w2.heap.size := HF13.out.size
              have hwx : w.heap.size < W1.heap.size := HLW.out
              have kR : ¬ (tg w2.heap.size = 2 ∨ tg w2.heap.size = 4 + Int.toNat 0) := fun hS => by have := HTZ1.out w2.heap.size hw12; omega
              have kX : ¬ (tg w.heap.size = 2 ∨ tg w.heap.size = 4 + Int.toNat 0) := fun hS => by have := HTG.out w.heap.size hwx; omega
              have kR2 : ¬ (W3.heap.size ≤ w2.heap.size ∧ w2.heap.size < wc.heap.size) := fun hS => by omega
              have kX2 : ¬ (W3.heap.size ≤ w.heap.size ∧ w.heap.size < wc.heap.size) := fun hS => by omega
              have r0 := hF9.keep (HF68.out.keep (HF6.out.keep HRc.out.1 kR) kR2) (fun h => h)
              have r1 := hF9.keep (HF68.out.keep (HF6.out.keep HRc.out.2.1 kR) kR2) (fun h => h)
              have r2 := hF9.keep (HF68.out.keep (HF6.out.keep HRc.out.2.2 kR) kR2) (fun h => h)
              have x0 := hF9.keep (HF68.out.keep (HF6.out.keep HXc.out.1 kX) kX2) (fun h => h)
              have x1 := hF9.keep (HF68.out.keep (HF6.out.keep HXc.out.2.1 kX) kX2) (fun h => h)
              have x2 := hF9.keep (HF68.out.keep (HF6.out.keep HXc.out.2.2 kX) kX2) (fun h => h)
              have HW28 : Hid (w2.heap.size < w8.heap.size ∧ w.heap.size < w8.heap.size) := by unfold Hid; have := HF6.out.size; have := HF68.out.size; omega
              clear kR kX kR2 kX2 hwx hw12 hw3 hw2 hz3
              obtain ⟨W10, hW10⟩ : ∃ W10, W10 = w9.alloc (.cells #[.int .i64 xn, .slice A9 xh.length c9, .slice A10 xb.length c10] 57) := ⟨_, rfl⟩
              go_wp2_with fail
              rw [← hW10]
              have hF10 : Frm NoS w9 W10 := by rw [hW10]; exact Frm.alloc (Frm.refl _ _) _
              have z0 : W10.cell? ⟨w9.heap.size, 0, none⟩ = some (.int .i64 xn) := by rw [hW10]; exact World.cell?_alloc_at _ _ _ _ rfl
              have z1 : W10.cell? ⟨w9.heap.size, 1, none⟩ = some (.slice A9 xh.length c9) := by rw [hW10]; exact World.cell?_alloc_at _ _ _ _ rfl
              have z2 : W10.cell? ⟨w9.heap.size, 2, none⟩ = some (.slice A10 xb.length c10) := by rw [hW10]; exact World.cell?_alloc_at _ _ _ _ rfl
              have r0 := hF10.keep r0 (fun h => h)
              have r1 := hF10.keep r1 (fun h => h)
              have r2 := hF10.keep r2 (fun h => h)
              have x0 := hF10.keep x0 (fun h => h)
              have x1 := hF10.keep x1 (fun h => h)
              have x2 := hF10.keep x2 (fun h => h)
              obtain ⟨hv1, bv1, he, hi1, hi2⟩ := hit
              simp only [List.cons.injEq, and_true, true_and] at he
              obtain ⟨rfl, rfl⟩ := he
              have HI1 : Hid (∀ W, Frm NoS W10 W → BytesIn (fun k => w8.heap.size ≤ k ∧ k < w9.heap.size) W (.slice A9 xh.length c9) xh) := fun W hf => hi1.frm (hF10.trans hf) (fun _ _ _ h => h)
              have HI2 : Hid (∀ W, Frm NoS W10 W → BytesIn (fun k => w8.heap.size ≤ k ∧ k < w9.heap.size) W (.slice A10 xb.length c10) xb) := fun W hf => hi2.frm (hF10.trans hf) (fun _ _ _ h => h)
              have HI0 : Hid (∃ l, BytesIn (fun k => w8.heap.size ≤ k ∧ k < w9.heap.size) w9 (.slice A9 xh.length c9) l) := ⟨_, hi1⟩
              have HFR := Lib.hid (hfr9.frm hF10 (fun _ _ _ _ h => h))
              have HF9 := Lib.hid hF9
              have HF10 := Lib.hid hF10
              have HFw10 := Lib.hid (hFw9.trans hF10)
              clear hW10 hF10 hF9 hFw9 hFw6 hi1 hi2 hfr9 hfr10 hb9
              have hw1 : IntKind.i64.wrap ((xh.length : Int) + xb.length) = (xh.length : Int) + xb.length := IntWalk.i64_in _ ⟨by omega, by omega⟩
              have KEEP : Hid (∀ w', Frm NoS W10 w' → w'.cell? ⟨w9.heap.size, 0, none⟩ = some (.int .i64 xn) ∧ w'.cell? ⟨w9.heap.size, 1, none⟩ = some (.slice A9 xh.length c9) ∧ w'.cell? ⟨w9.heap.size, 2, none⟩ = some (.slice A10 xb.length c10) ∧ w'.cell? ⟨w2.heap.size, 0, none⟩ = some (.int .i64 xn) ∧ w'.cell? ⟨w2.heap.size, 1, none⟩ = some (.string ⟨xh.toArray⟩) ∧ w'.cell? ⟨w2.heap.size, 2, none⟩ = some (.string ⟨xb.toArray⟩) ∧ w'.cell? ⟨w.heap.size, 0, none⟩ = some (.int .i64 xn) ∧ w'.cell? ⟨w.heap.size, 1, none⟩ = some (.slice A xh.length c) ∧ w'.cell? ⟨w.heap.size, 2, none⟩ = some (.slice A' xb.length c') ∧ Frm NoS W10 w') := fun w' hf => ⟨hf.keep z0 (fun h => h), hf.keep z1 (fun h => h), hf.keep z2 (fun h => h), hf.keep r0 (fun h => h), hf.keep r1 (fun h => h), hf.keep r2 (fun h => h), hf.keep x0 (fun h => h), hf.keep x1 (fun h => h), hf.keep x2 (fun h => h), hf⟩
              go_region_held3 (fun w' => w'.cell? ⟨w9.heap.size, 0, none⟩ = some (.int .i64 xn) ∧ w'.cell? ⟨w9.heap.size, 1, none⟩ = some (.slice A9 xh.length c9) ∧ w'.cell? ⟨w9.heap.size, 2, none⟩ = some (.slice A10 xb.length c10) ∧ w'.cell? ⟨w2.heap.size, 0, none⟩ = some (.int .i64 xn) ∧ w'.cell? ⟨w2.heap.size, 1, none⟩ = some (.string ⟨xh.toArray⟩) ∧ w'.cell? ⟨w2.heap.size, 2, none⟩ = some (.string ⟨xb.toArray⟩) ∧ w'.cell? ⟨w.heap.size, 0, none⟩ = some (.int .i64 xn) ∧ w'.cell? ⟨w.heap.size, 1, none⟩ = some (.slice A xh.length c) ∧ w'.cell? ⟨w.heap.size, 2, none⟩ = some (.slice A' xb.length c') ∧ Frm NoS W10 w') ((refine KEEP.out _ ?_; first | exact (Frm.refl NoS W10).drew | exact (((Frm.refl NoS W10).alloc _).alloc _).drew | exact ((((Frm.refl NoS W10).alloc _).alloc _).alloc _).drew)) (first | (go_at_call 33; have hS := ‹_ ∧ _ ∧ _ ∧ _ ∧ _ ∧ _ ∧ _ ∧ _ ∧ _ ∧ Frm NoS W10 _›.2.2.2.2.2.2.2.2.2; refine (ref_any ⟨xn, xh, xb⟩ _ (HI1.out _ hS) (HI2.out _ hS)).mono ?_; clear hS; rintro r w11 ⟨rfl, rfl⟩; unfold refV) | (go_at_call 36; refine (size_any _ _ _ _ _ _ _ _ (by omega) (by omega)).mono ?_; rintro r w12 ⟨rfl, rfl⟩))
              clear hw1 HRc HXc HX3 HR H1 H2 HB2 HB
              have hS := ‹_ ∧ _ ∧ _ ∧ _ ∧ _ ∧ _ ∧ _ ∧ _ ∧ _ ∧ Frm NoS W10 _›
              clear z0 z1 z2 r0 r1 r2 x0 x1 x2
              generalize World.drew _ = W11 at *
              obtain ⟨z0, z1, z2, r0, r1, r2, x0, x1, x2, hF11⟩ := hS
              have HI11 := Lib.hid (HI1.out _ hF11)
              have HFR11 := Lib.hid (HFR.out.frm hF11 (fun _ _ _ _ h => h))
              have HF11 := Lib.hid hF11
              clear hF11
              go_wp2_with fail
              go_loopw [110] (fun i wq => IncRel2 (fun k => w8.heap.size ≤ k ∧ k < w9.heap.size) W11 A9 xh.length c9 i wq) (fun i _ => xh.length - (intOf i).toNat)
              case atStart => exact ⟨0, Nat.zero_le _, rfl, ⟨xh, rfl, HI11.out⟩, Frm.refl _ _⟩
              case round =>
                obtain ⟨k, hk, rfl, ⟨l, hl0, hl⟩, hf⟩ := hrel
                by_cases hlt : k < xh.length
                · obtain ⟨b, o, x, rfl, hok, hc⟩ := hl.byte hlt
                  obtain ⟨hb0, hbz, hbf⟩ := HFR11.out b rfl
                  have hfz2 : wr.frozen? ⟨b, o + k, none⟩ = false := (hf.frozen (p := ⟨b, o + k, none⟩) hbz (j := o + xh.length) (fun hS => by obtain ⟨o', he, h1, h2⟩ := hS; (simp at he) <;> omega)).trans (hbf _)
                  have hbne : ¬ b = w9.heap.size := Nat.ne_of_lt hok.2
                  have HL := Lib.hid (And.intro hl0 hl)
                  have HF := Lib.hid hf
                  have z1' := hf.keep z1 (fun hS => by obtain ⟨o', he, _⟩ := hS; (simp at he) <;> exact hbne he.1)
                  clear hl hf hl0 hbf hok
                  go_wp2_with fail
                  go_roundw
                  case measure => simp [intOf]; omega
                  case rel => exact IncRel2.step HL.out.1 HL.out.2 HF.out hlt
                · obtain rfl : k = xh.length := by omega
                  have hne9 : ∀ b j, SlcS A9 xh.length b j → w8.heap.size < b ∧ b < w9.heap.size := fun b j hS => by
                    obtain ⟨o', rfl, h1, h2⟩ := hS
                    obtain ⟨b', o, x, he, hok, _⟩ := HI11.out.byte (k := 0) (by omega)
                    simp only [Option.some.injEq, Addr.mk.injEq, and_true] at he
                    obtain ⟨rfl, rfl⟩ := he
                    exact ⟨(HFR11.out b rfl).1, hok.2⟩
                  obtain ⟨w12, rfl⟩ : ∃ w12 : World, w12 = wr := ⟨_, rfl⟩
                  have h812 : Frm NoS w8 w12 := ((HF9.out.trans (HF10.out.trans HF11.out)).then_ hf (fun b j hb hS => by have := hne9 b j hS; omega))
                  have HQ12 := Lib.hid (HQ8.out.frm h812 (fun _ _ _ h => h))
                  have HPOP := Lib.hid (pop_yes 0 ⟨xn, xh, xb⟩ [] w12 HQ12.out (by simp [mAt]))
                  obtain ⟨hw28, hw08⟩ := HW28.out
                  have r0 := hf.keep r0 (fun hS => by have := hne9 w2.heap.size _ hS; omega)
                  have r1 := hf.keep r1 (fun hS => by have := hne9 w2.heap.size _ hS; omega)
                  have r2 := hf.keep r2 (fun hS => by have := hne9 w2.heap.size _ hS; omega)
                  have HFw12 : Hid (Frm NoS w w12) := (HFw10.out.trans HF11.out).then_ hf (fun b j hb hS => by have := hne9 b j hS; omega)
                  clear hl hf hl0 h812 hne9 hw28 hw08 HI11 HFR11 z0 z1 z2 x0 x1 x2
                  go_wp2_with fail
                  refine HPOP.out.mono ?_
                  rintro r w13 ⟨uh, ub, rfl, hit, ⟨A13, c13, rfl⟩, ⟨A14, c14, rfl⟩, hq13, hf13⟩
                  obtain ⟨hv1, bv1, he, hi1, hi2⟩ := hit
                  simp only [List.cons.injEq, and_true, true_and] at he
                  obtain ⟨rfl, rfl⟩ := he
                  have hkr : ∀ j, ¬ LineS tg6 (Int.toNat 0) w2.heap.size j := fun j hS => by have := HT6z.out w2.heap.size (.inl rfl); unfold LineS at hS; omega
                  have hkw : ∀ b j, b < w.heap.size → ¬ LineS tg6 (Int.toNat 0) b j := fun b j hb hS => by have := HT6z.out b (.inr hb); unfold LineS at hS; omega
                  have r0 := hf13.keep r0 (hkr _)
                  have r1 := hf13.keep r1 (hkr _)
                  have r2 := hf13.keep r2 (hkr _)
                  have HFw13 : Hid (Frm NoS w w13) := HFw12.out.then_ hf13 (fun b j hb hS => hkw b j hb hS)
                  obtain ⟨W14, hW14⟩ : ∃ W14, W14 = w13.alloc (.cells #[.int .i64 xn, .slice A13 xh.length c13, .slice A14 xb.length c14] 57) := ⟨_, rfl⟩
                  have hF14 : Frm NoS w13 W14 := by rw [hW14]; exact Frm.alloc (Frm.refl _ _) _
                  have z0 : W14.cell? ⟨w13.heap.size, 0, none⟩ = some (.int .i64 xn) := by rw [hW14]; exact World.cell?_alloc_at _ _ _ _ rfl
                  have z1 : W14.cell? ⟨w13.heap.size, 1, none⟩ = some (.slice A13 xh.length c13) := by rw [hW14]; exact World.cell?_alloc_at _ _ _ _ rfl
                  have z2 : W14.cell? ⟨w13.heap.size, 2, none⟩ = some (.slice A14 xb.length c14) := by rw [hW14]; exact World.cell?_alloc_at _ _ _ _ rfl
                  have r0 := hF14.keep r0 (fun h => h)
                  have r1 := hF14.keep r1 (fun h => h)
                  have r2 := hF14.keep r2 (fun h => h)
                  have HJ1 : Hid (∀ W, Frm NoS W14 W → BytesIn (fun k => w12.heap.size ≤ k ∧ k < w13.heap.size) W (.slice A13 xh.length c13) xh) := fun W hf => hi1.frm (hF14.trans hf) (fun _ _ _ h => h)
                  have HJ2 : Hid (∀ W, Frm NoS W14 W → BytesIn (fun k => w12.heap.size ≤ k ∧ k < w13.heap.size) W (.slice A14 xb.length c14) xb) := fun W hf => hi2.frm (hF14.trans hf) (fun _ _ _ h => h)
                  have HFw14 := Lib.hid (HFw13.out.trans hF14)
                  have KEEP : Hid (∀ w', Frm NoS W14 w' → w'.cell? ⟨w13.heap.size, 0, none⟩ = some (.int .i64 xn) ∧ w'.cell? ⟨w13.heap.size, 1, none⟩ = some (.slice A13 xh.length c13) ∧ w'.cell? ⟨w13.heap.size, 2, none⟩ = some (.slice A14 xb.length c14) ∧ w'.cell? ⟨w2.heap.size, 0, none⟩ = some (.int .i64 xn) ∧ w'.cell? ⟨w2.heap.size, 1, none⟩ = some (.string ⟨xh.toArray⟩) ∧ w'.cell? ⟨w2.heap.size, 2, none⟩ = some (.string ⟨xb.toArray⟩) ∧ Frm NoS W14 w') := fun w' hf => ⟨hf.keep z0 (fun h => h), hf.keep z1 (fun h => h), hf.keep z2 (fun h => h), hf.keep r0 (fun h => h), hf.keep r1 (fun h => h), hf.keep r2 (fun h => h), hf⟩
                  clear hi1 hi2 hq13 hf13 hkr hkw hF14
                  go_wp2_with fail
                  rw [← hW14]
                  clear hW14
                  go_region_held3 (fun w' => w'.cell? ⟨w13.heap.size, 0, none⟩ = some (.int .i64 xn) ∧ w'.cell? ⟨w13.heap.size, 1, none⟩ = some (.slice A13 xh.length c13) ∧ w'.cell? ⟨w13.heap.size, 2, none⟩ = some (.slice A14 xb.length c14) ∧ w'.cell? ⟨w2.heap.size, 0, none⟩ = some (.int .i64 xn) ∧ w'.cell? ⟨w2.heap.size, 1, none⟩ = some (.string ⟨xh.toArray⟩) ∧ w'.cell? ⟨w2.heap.size, 2, none⟩ = some (.string ⟨xb.toArray⟩) ∧ Frm NoS W14 w') ((first | exact hN5 | (refine KEEP.out _ ?_; first | exact (Frm.refl NoS W14).drew | exact (((Frm.refl NoS W14).alloc _).alloc _).drew))) (first | (go_at_call 33; have hS := ‹_ ∧ _ ∧ _ ∧ _ ∧ _ ∧ _ ∧ Frm NoS W14 _›.2.2.2.2.2.2; refine (ref_any ⟨xn, xh, xb⟩ _ (HJ1.out _ hS) (HJ2.out _ hS)).mono ?_; clear hS; rintro r w11 ⟨rfl, rfl⟩; unfold refV) | (go_at_call 31; have hS := ‹_ ∧ _ ∧ _ ∧ _ ∧ _ ∧ _ ∧ Frm NoS W14 _›.2.2.2.2.2.2; refine (awake18_any _).mono ?_; rintro r w15 ⟨rfl, hb15⟩; have hN5 := KEEP.out _ (hS.trans (Frm.of_below hb15)); clear hS hb15))
                  go_wp2_with fail
                  go_ret
                  exact ⟨rfl, (HFw14.out.trans hN5.2.2.2.2.2.2).no⟩
end Go.Proofs.Ytpihldeikdiniaa
