/- Package queue: Cut. -/
import Derived.Test.YtpihldeikdiniaaQ8
namespace Go.Proofs.Ytpihldeikdiniaa
open Go.RowKit
set_option linter.unusedVariables false
set_option linter.unusedSimpArgs false
def CutPost (tg : Nat → Nat) (w : World) (q bl T : Nat) (B I : Int) (m : Nat → List QI) (t : Int) (n : Nat) (x : QI) (l : List QI) (e : Ending) (w' : World) : Prop :=
  ∃ v', e = .returned (.tuple #[v', .int .i64 0]) ∧ BytesIn (fun k => w.heap.size ≤ k ∧ k < w'.heap.size) w' v' (x.b.take n) ∧ (∃ A c, v' = .slice A (x.b.take n).length c) ∧ QRep tg w' q bl T B I (upd m t.toNat (⟨x.num, x.h, x.b.drop n⟩ :: l)) ∧ Frm (LineS tg t.toNat) w w'
theorem cut_fin {tg : Nat → Nat} {w w5 : World} {q bl T t g cap n : Nat} {B I : Int} {m : Nat → List QI} {x : QI} {l : List QI} {r : List (List Value)} {bv v5 : Value} {cv : Int} (h : QRep tg w q bl T B I m) (ht : t < T) (hmt : m t = x :: l) (hn : n ≤ x.b.length)
    (hcv : w.cell? ⟨bl, t * 2, none⟩ = some (.slice (some ⟨g, 0, none⟩) (l.length + 1) cap)) (hlv : LineIn (fun k => tg k = 4 + t) (fun k => tg k = 3) w (.slice (some ⟨g, 0, none⟩) (l.length + 1) cap) (x :: l) r) (hg : tg g = 4 + t)
    (h5 : Below w.heap.size w w5) (hb : BytesIn (fun k => tg k = 3) w bv (x.b.drop n)) (hcvn : cv = qbytes (x :: l) - n) (hq : BytesIn (fun k => w.heap.size ≤ k ∧ k < w5.heap.size) w5 v5 (x.b.take n)) :
    let W := (w5.setCell ⟨g, 2, none⟩ bv).setCell ⟨bl, t * 2 + 1, none⟩ (.int .i64 cv)
    BytesIn (fun k => w.heap.size ≤ k ∧ k < W.heap.size) W v5 (x.b.take n) ∧ QRep tg W q bl T B I (upd m t (⟨x.num, x.h, x.b.drop n⟩ :: l)) ∧ Frm (LineS tg t) w W := by
  intro W
  have h5' : Frm NoS w w5 := Frm.of_below h5
  have hbl : bl < w.heap.size := h.lt bl (by rw [h.tl]; decide)
  have hgl : g < w.heap.size := h.lt g (by omega)
  have hgb : ¬ g = bl := fun e => by have h3 := h.tl; rw [← e] at h3; omega
  have hset : Frm (LineS tg t) w5 W := ((Frm.refl _ _).set_old (p := ⟨g, 2, none⟩) (.inl hg) _).set_old (p := ⟨bl, t * 2 + 1, none⟩) (.inr ⟨h.tl, .inr rfl⟩) _
  have hall : Frm (LineS tg t) w W := (h5'.mono (fun _ _ _ hf => hf.elim)).trans hset
  have hl5 := hlv.frm h5' (fun _ _ _ h => h) (fun _ _ _ h => h)
  obtain ⟨r', hl6⟩ := hl5.cutFirst (bv := bv) (b := x.b.drop n) (fun k hk e => by have h2 : tg k = 3 := hk; rw [e] at h2; omega) (hb.frm h5' (fun _ _ _ h => h))
  have hf7 : Frm (fun k _ => k = bl) (w5.setCell ⟨g, 2, none⟩ bv) W := (Frm.refl _ _).set_old (p := ⟨bl, t * 2 + 1, none⟩) rfl _
  have hl7 := hl6.frm hf7 (fun k j hk e => by have h2 : tg k = 4 + t := hk; have h3 := h.tl; rw [e] at h2; omega) (fun k j hk e => by have h2 : tg k = 3 := hk; have h3 := h.tl; rw [e] at h2; omega)
  refine ⟨?_, ?_, hall⟩
  · refine ((hq.frm hset (fun k j hk hS => ?_))).mono (fun k _ hk => ⟨hk.1, by have := hset.size; omega⟩)
    have hk1 : w.heap.size ≤ k := hk.1
    have : tg k ≠ 0 := by rcases hS with hS | hS; · omega
                          · have := hS.1; omega
    have := h.lt k this
    omega
  · refine h.turn ht hall (v := .slice (some ⟨g, 0, none⟩) (l.length + 1) cap) (r := r') ?_ hl7 ?_ ?_
    · refine (World.cell?_setCell_other _ _ _ _ (by simp)).trans ((World.cell?_setCell_other _ _ _ _ (by simp <;> omega)).trans (h5'.keep hcv (fun h => h)))
    · have hk := h5'.keep (h.cnt t ht) (fun h => h)
      have hk2 : (w5.setCell ⟨g, 2, none⟩ bv).cell? ⟨bl, t * 2 + 1, none⟩ = some (.int .i64 (qbytes (m t))) := (World.cell?_setCell_other _ _ _ _ (by simp <;> omega)).trans hk
      refine (World.cell?_setCell_same _ _ _ hk2).trans ?_
      rw [hcvn]
      have : (x.b.drop n).length = x.b.length - n := List.length_drop
      simp only [qbytes, QI.size, this]
      congr 2
      omega
    · have := h.lim t ht
      rw [hmt] at this
      have e : (x.b.drop n).length = x.b.length - n := List.length_drop
      simp only [qbytes, QI.size, e] at this ⊢
      omega
set_option maxRecDepth 100000 in
set_option maxHeartbeats 1600000 in
theorem cut_yes {tg : Nat → Nat} {q bl T : Nat} {B I : Int} {m : Nat → List QI} (t : Int) (n : Nat) (x : QI) (l : List QI) (w : World) (h : QRep tg w q bl T B I m) (hm : mAt m T t = x :: l) (hn : n ≤ x.b.length) :
    Calls Try.prog 72 #[.pointer (some ⟨q, 0, none⟩), .int .i64 t, .int .i64 (n : Int)] w (CutPost tg w q bl T B I m t n x l) := by
  obtain ⟨h0, h1, hmt⟩ := mAt_yes hm
  have HT : Hid (t.toNat < T) := by unfold Hid; omega
  have HL := Lib.hid (len_any t w h)
  have HO := Lib.hid (of_yes t w h h0 h1)
  rw [hm] at HL
  have HQ := Lib.hid h
  have hcn := h.cnt t.toNat (by omega)
  have hlim := h.lim t.toNat (by omega)
  have hB := h.B1
  rw [hmt] at hcn hlim
  have hqb : qbytes (x :: l) = x.size + qbytes l := rfl
  have hnn := qbytes_nn l
  obtain ⟨v, r, hcv, hlv⟩ := h.line t.toNat (by omega)
  rw [hmt] at hlv
  obtain ⟨g, cap, hv, bv, rfl, hg, hgl, hln, hcm, hc0, hc1, hc2, hbh, hbb, hfz, hr⟩ := hlv.at_ (i := 0) (x := x) rfl
  have hlen : (x :: l).length = l.length + 1 := rfl
  rw [hlen] at hcv HL hln
  have hlf := hlv.few
  rw [hlen] at hlf
  simp only [Nat.zero_mul, Nat.zero_add] at hc0 hc1 hc2
  obtain ⟨A', c', rfl, hbl1, hbl2, hbl, hbl4⟩ := id hbb
  have hB0 : Hid (BytesIn (fun k => tg k = 3) w (.slice A' x.b.length c') x.b) := hbb
  have HLV : Hid (LineIn (fun k => tg k = 4 + t.toNat) (fun k => tg k = 3) w (.slice (some ⟨g, 0, none⟩) (l.length + 1) cap) (x :: l) r) := hlv
  have HC := Lib.hid (clone_any (w := w) (BytesIn.take n hbb hn))
  have HX : Hid (x.size = (x.h.length : Int) + x.b.length) := rfl
  have HCN := Lib.hid hcn
  have hfg2 := hfz 2
  have hfb := h.fz (t.toNat * 2 + 1)
  have hblt : bl < w.heap.size := World.block_lt_of_cell? w _ hcv
  have hgb : ¬ g = bl := fun e => by have h2 : tg g = 4 + t.toNat := hg; have h3 := h.tl; rw [e] at h2; omega
  have hbg : ¬ bl = g := fun e => hgb e.symm
  have HMT := Lib.hid hmt
  have HG := Lib.hid hg
  have HCV := Lib.hid hcv
  clear h hlv hm hmt hfz hr hbh hbb hbl4 hg
  have hw1 : IntKind.i64.wrap (qbytes (x :: l) - (n : Int)) = qbytes (x :: l) - (n : Int) := IntWalk.i64_in _ ⟨by have := HX.out; omega, by have := HX.out; omega⟩
  have HXL : Hid (∀ a, a = x.b.length → a = x.b.length) := fun _ h => h
  clear hqb
  generalize hnb : qbytes (x :: l) = nb at *
  have HNB := Lib.hid hnb
  clear hnb
  generalize hxl : x.b.length = xb at *
  have HXB := Lib.hid hxl
  clear hxl
  go_enter Try.func72, Try.ntmps72
  go_wp2_with (first | (go_at_call 39; refine HL.out.mono ?_; rintro r w' ⟨rfl, rfl⟩; clear HL) | (go_at_call 73; refine HO.out.mono ?_; rintro r w' ⟨rfl, rfl⟩; clear HO) | (go_at_call 94; refine HC.out.mono ?_; clear HC; rintro r w5 ⟨v5, rfl, hq5, hbl5, ⟨A5, c5, rfl⟩, -⟩; have k0 := (Frm.of_below (S := NoS) hbl5).keep hc2 (fun h => h); have kf0 := (Frm.of_below (S := NoS) hbl5).keepf hc2 hfg2 (j := 0) (fun h => h); have k1 := (Frm.of_below (S := NoS) hbl5).keep hcn (fun h => h); have kf1 := (Frm.of_below (S := NoS) hbl5).keepf hcn hfb (j := 0) (fun h => h); have k2 := (Frm.of_below (S := NoS) hbl5).keep hcv (fun h => h); have L5 := Lib.hid hbl5; have Q5 := Lib.hid hq5; clear hq5 hbl5))
  all_goals
    rename_i hcn2
    go_ret2
    have hxl := HXB.out
    subst hxl
    have hnl := HNB.out
    subst hnl
  · have hbd := BytesIn.drop n hB0.out (by omega) A' (fun h => by omega)
    obtain ⟨p1, p2, p3⟩ := cut_fin (n := n) HQ.out HT.out HMT.out (by omega) HCV.out HLV.out HG.out L5.out hbd rfl Q5.out
    rw [h, Nat.sub_self] at p1 p2 p3
    exact ⟨.slice A5 (min n x.b.length) c5, rfl, by rw [List.length_take] at p1; exact p1, ⟨A5, c5, by rw [List.length_take]⟩, p2, p3⟩
  · have hbd := BytesIn.drop n hB0.out (by omega) (A'.map fun x => x.add n) (fun h b o hA => by rw [hA]; simp [Addr.add])
    obtain ⟨p1, p2, p3⟩ := cut_fin (n := n) HQ.out HT.out HMT.out (by omega) HCV.out HLV.out HG.out L5.out hbd rfl Q5.out
    exact ⟨.slice A5 (min n x.b.length) c5, rfl, by rw [List.length_take] at p1; exact p1, ⟨A5, c5, by rw [List.length_take]⟩, p2, p3⟩
end Go.Proofs.Ytpihldeikdiniaa
