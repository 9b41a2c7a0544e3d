/- Package queue: one line turned; Cut. -/
import Derived.Test.YtpihldeikdiniaaQ7
namespace Go.Proofs.Ytpihldeikdiniaa
open Go.RowKit
set_option linter.unusedVariables false
set_option linter.unusedSimpArgs false
/-- What may be written where one tenant's line is turned. -/
def LineS (tg : Nat → Nat) (t : Nat) : Nat → Nat → Prop := fun k j => tg k = 4 + t ∨ (tg k = 2 ∧ (j = t * 2 ∨ j = t * 2 + 1))
/-- A tenant's items, turned. -/
def upd (m : Nat → List QI) (t : Nat) (l : List QI) : Nat → List QI := fun k => if k = t then l else m k
theorem QRep.turn {tg : Nat → Nat} {w W : World} {q bl T t : Nat} {B I : Int} {m : Nat → List QI} {l : List QI} {v : Value} {r : List (List Value)} (h : QRep tg w q bl T B I m) (ht : t < T) (hf : Frm (LineS tg t) w W)
    (hv : W.cell? ⟨bl, t * 2, none⟩ = some v) (hl : LineIn (fun k => tg k = 4 + t) (fun k => tg k = 3) W v l r) (hc : W.cell? ⟨bl, t * 2 + 1, none⟩ = some (.int .i64 (qbytes l))) (hb : qbytes l ≤ B) :
    QRep tg W q bl T B I (upd m t l) where
  tq := h.tq
  tl := h.tl
  T1 := h.T1
  B1 := h.B1
  I1 := h.I1
  c0 := hf.keep h.c0 (fun hk => by rcases hk with hk | hk; · have h1 : tg q = 4 + t := hk; rw [h.tq] at h1; omega
                                   · have h1 : tg q = 2 := hk.1; rw [h.tq] at h1; omega)
  c1 := hf.keep h.c1 (fun hk => by rcases hk with hk | hk; · have h1 : tg q = 4 + t := hk; rw [h.tq] at h1; omega
                                   · have h1 : tg q = 2 := hk.1; rw [h.tq] at h1; omega)
  c2 := hf.keep h.c2 (fun hk => by rcases hk with hk | hk; · have h1 : tg q = 4 + t := hk; rw [h.tq] at h1; omega
                                   · have h1 : tg q = 2 := hk.1; rw [h.tq] at h1; omega)
  line := fun s hs => by
    by_cases e : s = t
    · subst e
      exact ⟨v, r, hv, by simpa [upd] using hl⟩
    · obtain ⟨vs, rs, hvs, hls⟩ := h.line s hs
      refine ⟨vs, rs, hf.keep hvs (fun hk => ?_), ?_⟩
      · rcases hk with hk | hk
        · have h1 : tg bl = 4 + t := hk; rw [h.tl] at h1; omega
        · have h1 : s * 2 = t * 2 ∨ s * 2 = t * 2 + 1 := hk.2; omega
      · simp only [upd, if_neg e]
        exact hls.frm hf (fun k j hk hS => by have h1 : tg k = 4 + s := hk; unfold LineS at hS; rw [h1] at hS; omega) (fun k j hk hS => by have h1 : tg k = 3 := hk; unfold LineS at hS; rw [h1] at hS; omega)
  cnt := fun s hs => by
    by_cases e : s = t
    · subst e
      simpa [upd] using hc
    · simp only [upd, if_neg e]
      refine hf.keep (h.cnt s hs) (fun hk => ?_)
      rcases hk with hk | hk
      · have h1 : tg bl = 4 + t := hk; rw [h.tl] at h1; omega
      · have h1 : s * 2 + 1 = t * 2 ∨ s * 2 + 1 = t * 2 + 1 := hk.2; omega
  fz := fun j => (hf.frozen (p := ⟨bl, j, none⟩) (h.lt bl (by rw [h.tl]; decide)) (j := t * 2 + 2) (fun hk => by
    rcases hk with hk | hk
    · have h1 : tg bl = 4 + t := hk; rw [h.tl] at h1; omega
    · have h1 := hk.2; omega)).trans (h.fz j)
  lim := fun s hs => by
    by_cases e : s = t
    · subst e; simpa [upd] using hb
    · simp only [upd, if_neg e]; exact h.lim s hs
  lt := fun k hk => Nat.lt_of_lt_of_le (h.lt k hk) hf.size
theorem BytesIn.drop {ok : Nat → Prop} {w : World} {A : Option Addr} {cap : Nat} {l : List UInt8} (n : Nat) (h : BytesIn ok w (.slice A l.length cap) l) (hn : n ≤ l.length) (A' : Option Addr) (hA : n < l.length → ∀ b o, A = some ⟨b, o, none⟩ → A' = some ⟨b, o + n, none⟩) :
    BytesIn ok w (.slice A' (l.length - n) (cap - n)) (l.drop n) := by
  obtain ⟨A0, cap0, hv, hl, hm, hb, hc⟩ := h
  simp only [Value.slice.injEq] at hv
  obtain ⟨rfl, _, rfl⟩ := hv
  refine ⟨A', cap - n, by simp, by simp; omega, by omega, by simp; omega, fun h0 => ?_⟩
  simp only [List.length_drop] at h0
  obtain ⟨b, o, hAe, hok, hcell⟩ := hc (by omega)
  refine ⟨b, o + n, hA (by omega) b o hAe, hok, fun j x hj => ?_⟩
  rw [List.getElem?_drop] at hj
  have := hcell (n + j) x hj
  rwa [show o + n + j = o + (n + j) from by omega]
theorem BytesIn.take {ok : Nat → Prop} {w : World} {A : Option Addr} {cap : Nat} {l : List UInt8} (n : Nat) (h : BytesIn ok w (.slice A l.length cap) l) (hn : n ≤ l.length) :
    BytesIn ok w (.slice A n cap) (l.take n) := by
  obtain ⟨A0, cap0, hv, hl, hm, hb, hc⟩ := h
  simp only [Value.slice.injEq] at hv
  obtain ⟨rfl, _, rfl⟩ := hv
  refine ⟨A, cap, by rw [List.length_take, Nat.min_eq_left hn], by simp; omega, hm, by simp; omega, fun h0 => ?_⟩
  obtain ⟨b, o, hAe, hok, hcell⟩ := hc (by simp at h0; omega)
  exact ⟨b, o, hAe, hok, fun j x hj => hcell j x (by rw [List.getElem?_take] at hj; split at hj <;> simp_all)⟩
theorem LineIn.cutFirst {okl okb : Nat → Prop} {w : World} {g cap : Nat} {x : QI} {l : List QI} {r : List (List Value)} {bv : Value} {b : List UInt8} (h : LineIn okl okb w (.slice (some ⟨g, 0, none⟩) (l.length + 1) cap) (x :: l) r)
    (hd : ∀ k, okb k → k ≠ g) (hb : BytesIn okb w bv b) : ∃ r', LineIn okl okb (w.setCell ⟨g, 2, none⟩ bv) (.slice (some ⟨g, 0, none⟩) (l.length + 1) cap) (⟨x.num, x.h, b⟩ :: l) r' := by
  have hf : Frm (fun k _ => k = g) w (w.setCell ⟨g, 2, none⟩ bv) := (Frm.refl _ _).set_old (p := ⟨g, 2, none⟩) rfl _
  obtain ⟨c, r', rfl, ⟨hv, bv0, rfl, h1, h2⟩, h3⟩ := h.items.tail
  have hst := (World.ownsRow.stored h.own 2 bv).1
  refine ⟨[.int .i64 x.num, hv, bv] :: r', { items := .cons ⟨hv, bv, rfl, h1.frm hf (fun k j hk hS => hd k hk hS), hb.frm hf (fun k j hk hS => hd k hk hS)⟩ (h3.frm hf (fun k j hk hS => hd k hk hS)), own := ?_, ok := h.ok, few := h.few }⟩
  simpa using hst
set_option maxRecDepth 100000 in
set_option maxHeartbeats 800000 in
theorem cut_none {tg : Nat → Nat} {q bl T : Nat} {B I : Int} {m : Nat → List QI} (t n : Int) (w : World) (h : QRep tg w q bl T B I m) (hm : mAt m T t = []) :
    Calls Try.prog 72 #[.pointer (some ⟨q, 0, none⟩), .int .i64 t, .int .i64 n] w fun e w' => e = .returned (.tuple #[.slice none 0 0, .int .i64 14]) ∧ w = w' := by
  have HL := Lib.hid (len_any t w h)
  rw [hm] at HL
  clear h hm
  go_enter Try.func72, Try.ntmps72
  go_wp2_with (go_at_call 39; refine HL.out.mono ?_; rintro r w' ⟨rfl, rfl⟩)
  go_ret2
  exact ⟨rfl, rfl⟩
set_option maxRecDepth 100000 in
set_option maxHeartbeats 1600000 in
theorem cut_range {tg : Nat → Nat} {q bl T : Nat} {B I : Int} {m : Nat → List QI} (t n : Int) (x : QI) (l : List QI) (w : World) (h : QRep tg w q bl T B I m) (hm : mAt m T t = x :: l) (hn : n < 0 ∨ (x.b.length : Int) < n) :
    Calls Try.prog 72 #[.pointer (some ⟨q, 0, none⟩), .int .i64 t, .int .i64 n] w fun e w' => e = .returned (.tuple #[.slice none 0 0, .int .i64 11]) ∧ w = w' := by
  obtain ⟨h0, h1, hmt⟩ := mAt_yes hm
  have HL := Lib.hid (len_any t w h)
  have HO := Lib.hid (of_yes t w h h0 h1)
  rw [hm] at HL
  obtain ⟨v, r, hcv, hlv⟩ := h.line t.toNat (by omega)
  rw [hmt] at hlv
  obtain ⟨g, cap, hv, bv, rfl, hg, hgl, hln, hcm, hc0, hc1, hc2, hbh, hbb, hfz, hr⟩ := hlv.at_ (i := 0) (x := x) rfl
  have hlen : (x :: l).length = l.length + 1 := rfl
  rw [hlen] at hcv HL hln
  have hlf := hlv.few
  rw [hlen] at hlf
  simp only [Nat.zero_mul, Nat.zero_add] at hc0 hc1 hc2
  obtain ⟨A', c', rfl, _, _, hbl, _⟩ := hbb
  clear h hlv hm hmt hfz hr hlen hg hbh
  generalize l.length = ln at *
  rcases hn with hn | hn
  all_goals
    go_enter Try.func72, Try.ntmps72
    go_wp2_with (first | (go_at_call 39; refine HL.out.mono ?_; rintro r w' ⟨rfl, rfl⟩; clear HL) | (go_at_call 73; refine HO.out.mono ?_; rintro r w' ⟨rfl, rfl⟩; clear HO))
    go_ret2
    exact ⟨rfl, rfl⟩
end Go.Proofs.Ytpihldeikdiniaa
