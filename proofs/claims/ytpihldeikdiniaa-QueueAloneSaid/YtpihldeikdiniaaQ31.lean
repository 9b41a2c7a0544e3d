/- Package squintlaw18: one, each way. -/
import Derived.Test.YtpihldeikdiniaaQ24
import Derived.Test.YtpihldeikdiniaaQ27
import Derived.Test.YtpihldeikdiniaaQ30
namespace Go.Proofs.Ytpihldeikdiniaa
open Go.RowKit
set_option linter.unusedVariables false
set_option linter.unusedSimpArgs false
/-- A call's words: its kind, its tenant, its number, its item. -/
structure OpD where
  kind : Int
  t : Int
  n : Int
  x : QI
/-- What a tenant's list is behind a call. -/
def oneL (B I : Int) (l : List QI) (o : OpD) : List QI :=
  if o.kind = 1 then (if I ≤ (l.length : Int) ∨ B < qbytes l + o.x.size then l else l ++ [o.x])
  else if o.kind = 5 then dropN o.n l
  else match l with
    | [] => []
    | x :: r => if o.kind = 3 then (if o.n < 0 ∨ (x.b.length : Int) < o.n then l else ⟨x.num, x.h, x.b.drop o.n.toNat⟩ :: r) else if o.kind = 4 then r else l
def OnePost (tg : Nat → Nat) (ok : Nat → Prop) (w : World) (q bl T : Nat) (B I : Int) (m : Nat → List QI) (t : Nat) (l' : List QI) (e : Ending) (w' : World) : Prop :=
  ∃ v' tg', e = .returned (.tuple #[v', .bool true]) ∧ RefIn (fun k => tg' k = 0 ∧ (ok k ∨ w.heap.size ≤ k)) w' v' l' ∧ QRep tg' w' q bl T B I (upd m t l') ∧ (∀ k, k < w.heap.size → tg' k = tg k) ∧ Frm (fun k _ => tg k = 2 ∨ tg k = 4 + t) w w' ∧ (l'.length : Int) ≤ I
theorem RefIn.mono {ok ok' : Nat → Prop} {w : World} {v : Value} {l : List QI} (h : RefIn ok w v l) (hok : ∀ k, k < w.heap.size → ok k → ok' k) : RefIn ok' w v l := by
  obtain ⟨A, cap, hv, hl, hm, hb, hc⟩ := h
  refine ⟨A, cap, hv, hl, hm, hb, fun h0 => ?_⟩
  obtain ⟨b, o, hA, ho, hcell⟩ := hc h0
  exact ⟨b, o, hA, hok _ (World.block_lt_of_cell? w _ ((hcell 0 _ (List.getElem?_eq_getElem h0)).1)) ho, hcell⟩
theorem QRep.tz {tg : Nat → Nat} {w : World} {q bl T : Nat} {B I : Int} {m : Nat → List QI} (h : QRep tg w q bl T B I m) : ∀ k, w.heap.size ≤ k → tg k = 0 := fun k hk => by
  by_cases e : tg k = 0
  · exact e
  · have := h.lt k e; omega
theorem QRep.same {tg : Nat → Nat} {w : World} {q bl T : Nat} {B I : Int} {m : Nat → List QI} (h : QRep tg w q bl T B I m) (t : Nat) : QRep tg w q bl T B I (upd m t (m t)) :=
  h.congr (fun s _ => by unfold upd; split <;> simp_all)
/-- What is so when nothing was written. -/
theorem OnePost.same {tg : Nat → Nat} {ok : Nat → Prop} {w w' : World} {q bl T : Nat} {B I : Int} {m : Nat → List QI} {t : Nat} {v : Value} (h : QRep tg w q bl T B I m) (hr : RefIn ok w v (m t)) (hok : ∀ k, ok k → tg k = 0) (hl : ((m t).length : Int) ≤ I) (hf : Frm NoS w w') :
    OnePost tg ok w q bl T B I m t (m t) (.returned (.tuple #[v, .bool true])) w' :=
  ⟨v, tg, rfl, (hr.frm hf (fun _ _ _ h => h)).mono (fun k _ hk => ⟨hok k hk, .inl hk⟩), (h.same t).frm hf (fun _ _ _ h => h), fun _ _ => rfl, hf.mono (fun _ _ _ h => h.elim), hl⟩
theorem LineS.le {tg : Nat → Nat} {t k j : Nat} (h : LineS tg t k j) : tg k = 2 ∨ tg k = 4 + t := by unfold LineS at h; omega
set_option maxRecDepth 100000 in
set_option maxHeartbeats 6400000 in
theorem one_put_no {tg : Nat → Nat} {ok okb : Nat → Prop} {q bl T : Nat} {B I : Int} {m : Nat → List QI} {v hv bv zv : Value} (t : Int) (n : Int) (x : QI) (w : World) (h : QRep tg w q bl T B I m) (hr : RefIn ok w v (m t.toNat)) (hok : ∀ k, ok k → tg k = 0) (hh : BytesIn okb w hv x.h) (hb : BytesIn okb w bv x.b) (h0 : 0 ≤ t) (h1 : t < T) (hli : ((m t.toNat).length : Int) ≤ I) (hq : I ≤ ((m t.toNat).length : Int) ∨ B < qbytes (m t.toNat) + x.size) :
    Calls Try.prog 44 #[.pointer (some ⟨q, 0, none⟩), v, .agg #[.int .i64 (T : Int), .int .i64 B, .int .i64 I, zv], .agg #[.int .i64 1, .int .i64 t, .int .i64 n, .int .i64 x.num, hv, bv]] w (OnePost tg ok w q bl T B I m t.toNat (m t.toNat)) := by
  have hlim := h.lim t.toNat (by omega)
  have hnn := qbytes_nn (m t.toNat)
  have H1 : Hid (∀ W, Frm NoS w W → BytesIn okb W hv x.h) := fun W hf => hh.frm hf (fun _ _ _ h => h)
  have H2 : Hid (∀ W, Frm NoS w W → BytesIn okb W bv x.b) := fun W hf => hb.frm hf (fun _ _ _ h => h)
  have HR : Hid (∀ W, Frm NoS w W → RefIn ok W v (m t.toNat)) := fun W hf => hr.frm hf (fun _ _ _ h => h)
  have HQ := Lib.hid h
  have HQF : Hid (∀ W, Frm NoS w W → QRep tg W q bl T B I m) := fun W hf => h.frm hf (fun _ _ _ h => h)
  have HSAME : Hid (∀ W, Frm NoS w W → OnePost tg ok w q bl T B I m t.toNat (m t.toNat) (.returned (.tuple #[v, .bool true])) W) := fun W hf => OnePost.same h hr hok hli hf
  have hB := h.B1
  have hI := h.I1
  have HOK := Lib.hid hok
  have hmat : mAt m T t = m t.toNat := by simp [mAt, h0, h1]
  have HLF : Hid (∀ s, s < T → (m s).length ≤ 4096 ∧ qbytes (m s) ≤ B) := fun s hs => by
    obtain ⟨_, _, _, hl⟩ := h.line s hs
    exact ⟨hl.few, h.lim s hs⟩
  obtain ⟨A, c, rfl, _, _, hb1, _⟩ := hh
  obtain ⟨A', c', rfl, _, _, hb2, _⟩ := hb
  obtain ⟨Av, cv, rfl, _⟩ := id hr
  clear hok h hr
  obtain ⟨W1, hW1⟩ : ∃ W1, W1 = (w.alloc (.cells #[.int .i64 (T : Int), .int .i64 B, .int .i64 I, zv] 71)).alloc (.cells #[.int .i64 1, .int .i64 t, .int .i64 n, .int .i64 x.num, .slice A x.h.length c, .slice A' x.b.length c'] 76) := ⟨_, rfl⟩
  have hF1 : Frm NoS w W1 := by rw [hW1]; exact Frm.alloc (Frm.alloc (Frm.refl _ _) _) _
  have z0 : W1.cell? ⟨w.heap.size, 0, none⟩ = some (.int .i64 (T : Int)) := by rw [hW1, World.cell?_alloc_lt _ _ _ (by simp)]; exact World.cell?_alloc_at _ _ _ _ rfl
  have z1 : W1.cell? ⟨w.heap.size, 1, none⟩ = some (.int .i64 B) := by rw [hW1, World.cell?_alloc_lt _ _ _ (by simp)]; exact World.cell?_alloc_at _ _ _ _ rfl
  have z2 : W1.cell? ⟨w.heap.size, 2, none⟩ = some (.int .i64 I) := by rw [hW1, World.cell?_alloc_lt _ _ _ (by simp)]; exact World.cell?_alloc_at _ _ _ _ rfl
  have z3 : W1.cell? ⟨w.heap.size, 3, none⟩ = some (zv) := by rw [hW1, World.cell?_alloc_lt _ _ _ (by simp)]; exact World.cell?_alloc_at _ _ _ _ rfl
  have o0 : W1.cell? ⟨w.heap.size + 1, 0, none⟩ = some (.int .i64 1) := by rw [hW1]; exact World.cell?_alloc_at _ _ _ _ (by simp)
  have o1 : W1.cell? ⟨w.heap.size + 1, 1, none⟩ = some (.int .i64 t) := by rw [hW1]; exact World.cell?_alloc_at _ _ _ _ (by simp)
  have o2 : W1.cell? ⟨w.heap.size + 1, 2, none⟩ = some (.int .i64 n) := by rw [hW1]; exact World.cell?_alloc_at _ _ _ _ (by simp)
  have o3 : W1.cell? ⟨w.heap.size + 1, 3, none⟩ = some (.int .i64 x.num) := by rw [hW1]; exact World.cell?_alloc_at _ _ _ _ (by simp)
  have o4 : W1.cell? ⟨w.heap.size + 1, 4, none⟩ = some (.slice A x.h.length c) := by rw [hW1]; exact World.cell?_alloc_at _ _ _ _ (by simp)
  have o5 : W1.cell? ⟨w.heap.size + 1, 5, none⟩ = some (.slice A' x.b.length c') := by rw [hW1]; exact World.cell?_alloc_at _ _ _ _ (by simp)
  have HF1 := Lib.hid hF1
  clear hF1
  go_enter Try.func44, Try.ntmps44
  go_wp2_with fail
  rw [← hW1]
  clear hW1
  have KEEP : Hid (∀ w', Frm NoS W1 w' → w'.cell? ⟨w.heap.size, 0, none⟩ = some (.int .i64 (T : Int)) ∧ w'.cell? ⟨w.heap.size, 1, none⟩ = some (.int .i64 B) ∧ w'.cell? ⟨w.heap.size, 2, none⟩ = some (.int .i64 I) ∧ w'.cell? ⟨w.heap.size, 3, none⟩ = some (zv) ∧ w'.cell? ⟨w.heap.size + 1, 0, none⟩ = some (.int .i64 1) ∧ w'.cell? ⟨w.heap.size + 1, 1, none⟩ = some (.int .i64 t) ∧ w'.cell? ⟨w.heap.size + 1, 2, none⟩ = some (.int .i64 n) ∧ w'.cell? ⟨w.heap.size + 1, 3, none⟩ = some (.int .i64 x.num) ∧ w'.cell? ⟨w.heap.size + 1, 4, none⟩ = some (.slice A x.h.length c) ∧ w'.cell? ⟨w.heap.size + 1, 5, none⟩ = some (.slice A' x.b.length c') ∧ Frm NoS W1 w') := fun w' hf => ⟨hf.keep z0 (fun h => h), hf.keep z1 (fun h => h), hf.keep z2 (fun h => h), hf.keep z3 (fun h => h), hf.keep o0 (fun h => h), hf.keep o1 (fun h => h), hf.keep o2 (fun h => h), hf.keep o3 (fun h => h), hf.keep o4 (fun h => h), hf.keep o5 (fun h => h), hf⟩
  go_region_held3 (fun w' => w'.cell? ⟨w.heap.size, 0, none⟩ = some (.int .i64 (T : Int)) ∧ w'.cell? ⟨w.heap.size, 1, none⟩ = some (.int .i64 B) ∧ w'.cell? ⟨w.heap.size, 2, none⟩ = some (.int .i64 I) ∧ w'.cell? ⟨w.heap.size, 3, none⟩ = some (zv) ∧ w'.cell? ⟨w.heap.size + 1, 0, none⟩ = some (.int .i64 1) ∧ w'.cell? ⟨w.heap.size + 1, 1, none⟩ = some (.int .i64 t) ∧ w'.cell? ⟨w.heap.size + 1, 2, none⟩ = some (.int .i64 n) ∧ w'.cell? ⟨w.heap.size + 1, 3, none⟩ = some (.int .i64 x.num) ∧ w'.cell? ⟨w.heap.size + 1, 4, none⟩ = some (.slice A x.h.length c) ∧ w'.cell? ⟨w.heap.size + 1, 5, none⟩ = some (.slice A' x.b.length c') ∧ Frm NoS W1 w') ((first | exact hN5 | (refine KEEP.out _ ?_; first | exact (Frm.refl NoS W1).drew | exact (((Frm.refl NoS W1).alloc _).alloc _).drew))) (first | (go_at_call 33; have hS := ‹_ ∧ _ ∧ _ ∧ _ ∧ _ ∧ _ ∧ _ ∧ _ ∧ _ ∧ _ ∧ Frm NoS W1 _›.2.2.2.2.2.2.2.2.2.2; refine (ref_any x _ (H1.out _ (HF1.out.trans hS)) (H2.out _ (HF1.out.trans hS))).mono ?_; clear hS; rintro r w11 ⟨rfl, rfl⟩) | (go_at_call 77; have hS := ‹_ ∧ _ ∧ _ ∧ _ ∧ _ ∧ _ ∧ _ ∧ _ ∧ _ ∧ _ ∧ Frm NoS W1 _›.2.2.2.2.2.2.2.2.2.2; refine (refPut_no B I x _ (HR.out _ (HF1.out.trans hS)) (by omega) (by unfold QI.size; omega) (by omega) hq).mono ?_; rintro r w12 ⟨rfl, hb12⟩; have hN5 := KEEP.out _ (hS.trans (Frm.of_below hb12)); clear hS hb12))
  clear z0 z1 z2 z3 o0 o1 o2 o3 o4 o5
  obtain ⟨z0, z1, z2, z3, o0, o1, o2, o3, o4, o5, hF12⟩ := hN5
  have HF12 := Lib.hid (HF1.out.trans hF12)
  have HQ12 := Lib.hid (HQF.out _ HF12.out)
  clear hF12
  go_wp2_with fail
  refine (put_quota A A' x.h.length c x.b.length c' x.num t _ HQ12.out hb1 hb2 h0 h1 (by have := hq; unfold QI.size at this; exact this)).mono ?_
  rintro r w13 ⟨rfl, hb13⟩
  have HF13 := Lib.hid (HF12.out.trans (Frm.of_below hb13))
  clear hb13
  go_wp2_with fail
  go_ret2
  exact HSAME.out _ HF13.out
set_option maxRecDepth 100000 in
set_option maxHeartbeats 6400000 in
theorem one_put_yes {tg : Nat → Nat} {ok okb : Nat → Prop} {q bl T : Nat} {B I : Int} {m : Nat → List QI} {v hv bv zv : Value} (t : Int) (n : Int) (x : QI) (w : World) (h : QRep tg w q bl T B I m) (hr : RefIn ok w v (m t.toNat)) (hok : ∀ k, ok k → tg k = 0) (hh : BytesIn okb w hv x.h) (hb : BytesIn okb w bv x.b) (h0 : 0 ≤ t) (h1 : t < T) (hli : ((m t.toNat).length : Int) ≤ I) (hq1 : ((m t.toNat).length : Int) < I) (hq2 : qbytes (m t.toNat) + x.size ≤ B) :
    Calls Try.prog 44 #[.pointer (some ⟨q, 0, none⟩), v, .agg #[.int .i64 (T : Int), .int .i64 B, .int .i64 I, zv], .agg #[.int .i64 1, .int .i64 t, .int .i64 n, .int .i64 x.num, hv, bv]] w (OnePost tg ok w q bl T B I m t.toNat (m t.toNat ++ [x])) := by
  have hlim := h.lim t.toNat (by omega)
  have hnn := qbytes_nn (m t.toNat)
  have H1 : Hid (∀ W, Frm NoS w W → BytesIn okb W hv x.h) := fun W hf => hh.frm hf (fun _ _ _ h => h)
  have H2 : Hid (∀ W, Frm NoS w W → BytesIn okb W bv x.b) := fun W hf => hb.frm hf (fun _ _ _ h => h)
  have HR : Hid (∀ W, Frm NoS w W → RefIn ok W v (m t.toNat)) := fun W hf => hr.frm hf (fun _ _ _ h => h)
  have HQ := Lib.hid h
  have HQF : Hid (∀ W, Frm NoS w W → QRep tg W q bl T B I m) := fun W hf => h.frm hf (fun _ _ _ h => h)
  have HSAME : Hid (∀ W, Frm NoS w W → OnePost tg ok w q bl T B I m t.toNat (m t.toNat) (.returned (.tuple #[v, .bool true])) W) := fun W hf => OnePost.same h hr hok hli hf
  have hB := h.B1
  have hI := h.I1
  have HOK := Lib.hid hok
  have hmat : mAt m T t = m t.toNat := by simp [mAt, h0, h1]
  have HLF : Hid (∀ s, s < T → (m s).length ≤ 4096 ∧ qbytes (m s) ≤ B) := fun s hs => by
    obtain ⟨_, _, _, hl⟩ := h.line s hs
    exact ⟨hl.few, h.lim s hs⟩
  obtain ⟨A, c, rfl, _, _, hb1, _⟩ := hh
  obtain ⟨A', c', rfl, _, _, hb2, _⟩ := hb
  obtain ⟨Av, cv, rfl, _⟩ := id hr
  clear hok h hr
  obtain ⟨W1, hW1⟩ : ∃ W1, W1 = (w.alloc (.cells #[.int .i64 (T : Int), .int .i64 B, .int .i64 I, zv] 71)).alloc (.cells #[.int .i64 1, .int .i64 t, .int .i64 n, .int .i64 x.num, .slice A x.h.length c, .slice A' x.b.length c'] 76) := ⟨_, rfl⟩
  have hF1 : Frm NoS w W1 := by rw [hW1]; exact Frm.alloc (Frm.alloc (Frm.refl _ _) _) _
  have z0 : W1.cell? ⟨w.heap.size, 0, none⟩ = some (.int .i64 (T : Int)) := by rw [hW1, World.cell?_alloc_lt _ _ _ (by simp)]; exact World.cell?_alloc_at _ _ _ _ rfl
  have z1 : W1.cell? ⟨w.heap.size, 1, none⟩ = some (.int .i64 B) := by rw [hW1, World.cell?_alloc_lt _ _ _ (by simp)]; exact World.cell?_alloc_at _ _ _ _ rfl
  have z2 : W1.cell? ⟨w.heap.size, 2, none⟩ = some (.int .i64 I) := by rw [hW1, World.cell?_alloc_lt _ _ _ (by simp)]; exact World.cell?_alloc_at _ _ _ _ rfl
  have z3 : W1.cell? ⟨w.heap.size, 3, none⟩ = some (zv) := by rw [hW1, World.cell?_alloc_lt _ _ _ (by simp)]; exact World.cell?_alloc_at _ _ _ _ rfl
  have o0 : W1.cell? ⟨w.heap.size + 1, 0, none⟩ = some (.int .i64 1) := by rw [hW1]; exact World.cell?_alloc_at _ _ _ _ (by simp)
  have o1 : W1.cell? ⟨w.heap.size + 1, 1, none⟩ = some (.int .i64 t) := by rw [hW1]; exact World.cell?_alloc_at _ _ _ _ (by simp)
  have o2 : W1.cell? ⟨w.heap.size + 1, 2, none⟩ = some (.int .i64 n) := by rw [hW1]; exact World.cell?_alloc_at _ _ _ _ (by simp)
  have o3 : W1.cell? ⟨w.heap.size + 1, 3, none⟩ = some (.int .i64 x.num) := by rw [hW1]; exact World.cell?_alloc_at _ _ _ _ (by simp)
  have o4 : W1.cell? ⟨w.heap.size + 1, 4, none⟩ = some (.slice A x.h.length c) := by rw [hW1]; exact World.cell?_alloc_at _ _ _ _ (by simp)
  have o5 : W1.cell? ⟨w.heap.size + 1, 5, none⟩ = some (.slice A' x.b.length c') := by rw [hW1]; exact World.cell?_alloc_at _ _ _ _ (by simp)
  have HF1 := Lib.hid hF1
  clear hF1
  go_enter Try.func44, Try.ntmps44
  go_wp2_with fail
  rw [← hW1]
  clear hW1
  have KEEP : Hid (∀ w', Frm NoS W1 w' → w'.cell? ⟨w.heap.size, 0, none⟩ = some (.int .i64 (T : Int)) ∧ w'.cell? ⟨w.heap.size, 1, none⟩ = some (.int .i64 B) ∧ w'.cell? ⟨w.heap.size, 2, none⟩ = some (.int .i64 I) ∧ w'.cell? ⟨w.heap.size, 3, none⟩ = some (zv) ∧ w'.cell? ⟨w.heap.size + 1, 0, none⟩ = some (.int .i64 1) ∧ w'.cell? ⟨w.heap.size + 1, 1, none⟩ = some (.int .i64 t) ∧ w'.cell? ⟨w.heap.size + 1, 2, none⟩ = some (.int .i64 n) ∧ w'.cell? ⟨w.heap.size + 1, 3, none⟩ = some (.int .i64 x.num) ∧ w'.cell? ⟨w.heap.size + 1, 4, none⟩ = some (.slice A x.h.length c) ∧ w'.cell? ⟨w.heap.size + 1, 5, none⟩ = some (.slice A' x.b.length c') ∧ Frm NoS W1 w') := fun w' hf => ⟨hf.keep z0 (fun h => h), hf.keep z1 (fun h => h), hf.keep z2 (fun h => h), hf.keep z3 (fun h => h), hf.keep o0 (fun h => h), hf.keep o1 (fun h => h), hf.keep o2 (fun h => h), hf.keep o3 (fun h => h), hf.keep o4 (fun h => h), hf.keep o5 (fun h => h), hf⟩
  go_region_held3 (fun w' => w'.cell? ⟨w.heap.size, 0, none⟩ = some (.int .i64 (T : Int)) ∧ w'.cell? ⟨w.heap.size, 1, none⟩ = some (.int .i64 B) ∧ w'.cell? ⟨w.heap.size, 2, none⟩ = some (.int .i64 I) ∧ w'.cell? ⟨w.heap.size, 3, none⟩ = some (zv) ∧ w'.cell? ⟨w.heap.size + 1, 0, none⟩ = some (.int .i64 1) ∧ w'.cell? ⟨w.heap.size + 1, 1, none⟩ = some (.int .i64 t) ∧ w'.cell? ⟨w.heap.size + 1, 2, none⟩ = some (.int .i64 n) ∧ w'.cell? ⟨w.heap.size + 1, 3, none⟩ = some (.int .i64 x.num) ∧ w'.cell? ⟨w.heap.size + 1, 4, none⟩ = some (.slice A x.h.length c) ∧ w'.cell? ⟨w.heap.size + 1, 5, none⟩ = some (.slice A' x.b.length c') ∧ Frm NoS W1 w') ((first | exact hN5 | (refine KEEP.out _ ?_; first | exact (Frm.refl NoS W1).drew | exact (((Frm.refl NoS W1).alloc _).alloc _).drew))) (first | (go_at_call 33; have hS := ‹_ ∧ _ ∧ _ ∧ _ ∧ _ ∧ _ ∧ _ ∧ _ ∧ _ ∧ _ ∧ Frm NoS W1 _›.2.2.2.2.2.2.2.2.2.2; refine (ref_any x _ (H1.out _ (HF1.out.trans hS)) (H2.out _ (HF1.out.trans hS))).mono ?_; clear hS; rintro r w11 ⟨rfl, rfl⟩) | (go_at_call 77; have hS := ‹_ ∧ _ ∧ _ ∧ _ ∧ _ ∧ _ ∧ _ ∧ _ ∧ _ ∧ _ ∧ Frm NoS W1 _›.2.2.2.2.2.2.2.2.2.2; refine (refPut_yes B I x _ (HR.out _ (HF1.out.trans hS)) (by omega) hq1 hq2 (by omega)).mono ?_; rintro r w12 ⟨v5, rfl, hri, hb12⟩; have hN5 := KEEP.out _ (hS.trans (Frm.of_below hb12)); have HZ5 := Lib.hid (HF1.out.trans hS).size; have HRI := Lib.hid hri; obtain ⟨A5, c5, rfl, _⟩ := hri; clear hS hb12))
  clear z0 z1 z2 z3 o0 o1 o2 o3 o4 o5
  obtain ⟨z0, z1, z2, z3, o0, o1, o2, o3, o4, o5, hF12⟩ := hN5
  have HF12 := Lib.hid (HF1.out.trans hF12)
  have HQ12 := Lib.hid (HQF.out _ HF12.out)
  clear hF12
  go_wp2_with fail
  refine (put_yes t x _ HQ12.out (H1.out _ HF12.out) (H2.out _ HF12.out) h0 h1 hq1 hq2).mono ?_
  rintro r w13 ⟨tg', rfl, hq13, ht13, hf13⟩
  have HQ13 := Lib.hid hq13
  have HT13 := Lib.hid ht13
  have HF13 := Lib.hid hf13
  clear hq13 ht13 hf13
  go_wp2_with fail
  go_ret2
  have tz := HQ.out.tz
  have hz5 := HZ5.out
  have hz12 := HF12.out.size
  have hri2 := HRI.out
  rw [show (m t.toNat ++ [x]).length = (m t.toNat).length + 1 from by simp] at hri2
  refine ⟨.slice A5 ((m t.toNat).length + 1) c5, tg', rfl, ?_, ?_, fun k hk => HT13.out k (by omega), (HF12.out.mono (fun _ _ _ h => h.elim)).trans HF13.out, by simp; omega⟩
  · refine (hri2.frm HF13.out (fun k j hk hS => by have := tz k (Nat.le_trans hz5 hk.1); omega)).mono (fun k _ hk => ⟨?_, .inr (Nat.le_trans hz5 hk.1)⟩)
    rw [HT13.out k hk.2]
    exact tz k (Nat.le_trans hz5 hk.1)
  · exact HQ13.out.congr (fun s _ => by unfold upd; split <;> simp_all)
theorem dropN_lt (n : Int) (l : List QI) : ((hasN n l = true) ∧ ((dropN n l).length : Int) < l.length) ∨ (hasN n l = false ∧ (dropN n l).length = l.length) := by
  have := dropN_len n l
  cases hh : hasN n l with
  | false => right; rw [this, hh]; simp
  | true =>
    left
    have h0 : 0 < l.length := by cases l with
      | nil => cases hh
      | cons _ _ => simp
    refine ⟨rfl, ?_⟩
    rw [this, hh]
    simp
    omega
set_option maxRecDepth 100000 in
set_option maxHeartbeats 6400000 in
theorem one_drop {tg : Nat → Nat} {ok okb : Nat → Prop} {q bl T : Nat} {B I : Int} {m : Nat → List QI} {v hv bv zv : Value} (t : Int) (n : Int) (x : QI) (w : World) (h : QRep tg w q bl T B I m) (hr : RefIn ok w v (m t.toNat)) (hok : ∀ k, ok k → tg k = 0) (hh : BytesIn okb w hv x.h) (hb : BytesIn okb w bv x.b) (h0 : 0 ≤ t) (h1 : t < T) (hli : ((m t.toNat).length : Int) ≤ I) :
    Calls Try.prog 44 #[.pointer (some ⟨q, 0, none⟩), v, .agg #[.int .i64 (T : Int), .int .i64 B, .int .i64 I, zv], .agg #[.int .i64 5, .int .i64 t, .int .i64 n, .int .i64 x.num, hv, bv]] w (OnePost tg ok w q bl T B I m t.toNat (dropN n (m t.toNat))) := by
  have hfew : (m t.toNat).length ≤ 4096 := by obtain ⟨_, _, _, hl⟩ := h.line t.toNat (by omega); exact hl.few
  have hdl := dropN_lt n (m t.toNat)
  have HDL : Hid (((dropN n (m t.toNat)).length : Int) ≤ I) := by unfold Hid; omega
  have H1 : Hid (∀ W, Frm NoS w W → BytesIn okb W hv x.h) := fun W hf => hh.frm hf (fun _ _ _ h => h)
  have H2 : Hid (∀ W, Frm NoS w W → BytesIn okb W bv x.b) := fun W hf => hb.frm hf (fun _ _ _ h => h)
  have HR : Hid (∀ W, Frm NoS w W → RefIn ok W v (m t.toNat)) := fun W hf => hr.frm hf (fun _ _ _ h => h)
  have HQ := Lib.hid h
  have HQF : Hid (∀ W, Frm NoS w W → QRep tg W q bl T B I m) := fun W hf => h.frm hf (fun _ _ _ h => h)
  have HSAME : Hid (∀ W, Frm NoS w W → OnePost tg ok w q bl T B I m t.toNat (m t.toNat) (.returned (.tuple #[v, .bool true])) W) := fun W hf => OnePost.same h hr hok hli hf
  have hB := h.B1
  have hI := h.I1
  have HOK := Lib.hid hok
  have hmat : mAt m T t = m t.toNat := by simp [mAt, h0, h1]
  have HLF : Hid (∀ s, s < T → (m s).length ≤ 4096 ∧ qbytes (m s) ≤ B) := fun s hs => by
    obtain ⟨_, _, _, hl⟩ := h.line s hs
    exact ⟨hl.few, h.lim s hs⟩
  obtain ⟨A, c, rfl, _, _, hb1, _⟩ := hh
  obtain ⟨A', c', rfl, _, _, hb2, _⟩ := hb
  obtain ⟨Av, cv, rfl, _⟩ := id hr
  clear hok h hr
  obtain ⟨W1, hW1⟩ : ∃ W1, W1 = (w.alloc (.cells #[.int .i64 (T : Int), .int .i64 B, .int .i64 I, zv] 71)).alloc (.cells #[.int .i64 5, .int .i64 t, .int .i64 n, .int .i64 x.num, .slice A x.h.length c, .slice A' x.b.length c'] 76) := ⟨_, rfl⟩
  have hF1 : Frm NoS w W1 := by rw [hW1]; exact Frm.alloc (Frm.alloc (Frm.refl _ _) _) _
  have z0 : W1.cell? ⟨w.heap.size, 0, none⟩ = some (.int .i64 (T : Int)) := by rw [hW1, World.cell?_alloc_lt _ _ _ (by simp)]; exact World.cell?_alloc_at _ _ _ _ rfl
  have z1 : W1.cell? ⟨w.heap.size, 1, none⟩ = some (.int .i64 B) := by rw [hW1, World.cell?_alloc_lt _ _ _ (by simp)]; exact World.cell?_alloc_at _ _ _ _ rfl
  have z2 : W1.cell? ⟨w.heap.size, 2, none⟩ = some (.int .i64 I) := by rw [hW1, World.cell?_alloc_lt _ _ _ (by simp)]; exact World.cell?_alloc_at _ _ _ _ rfl
  have z3 : W1.cell? ⟨w.heap.size, 3, none⟩ = some (zv) := by rw [hW1, World.cell?_alloc_lt _ _ _ (by simp)]; exact World.cell?_alloc_at _ _ _ _ rfl
  have o0 : W1.cell? ⟨w.heap.size + 1, 0, none⟩ = some (.int .i64 5) := by rw [hW1]; exact World.cell?_alloc_at _ _ _ _ (by simp)
  have o1 : W1.cell? ⟨w.heap.size + 1, 1, none⟩ = some (.int .i64 t) := by rw [hW1]; exact World.cell?_alloc_at _ _ _ _ (by simp)
  have o2 : W1.cell? ⟨w.heap.size + 1, 2, none⟩ = some (.int .i64 n) := by rw [hW1]; exact World.cell?_alloc_at _ _ _ _ (by simp)
  have o3 : W1.cell? ⟨w.heap.size + 1, 3, none⟩ = some (.int .i64 x.num) := by rw [hW1]; exact World.cell?_alloc_at _ _ _ _ (by simp)
  have o4 : W1.cell? ⟨w.heap.size + 1, 4, none⟩ = some (.slice A x.h.length c) := by rw [hW1]; exact World.cell?_alloc_at _ _ _ _ (by simp)
  have o5 : W1.cell? ⟨w.heap.size + 1, 5, none⟩ = some (.slice A' x.b.length c') := by rw [hW1]; exact World.cell?_alloc_at _ _ _ _ (by simp)
  have HF1 := Lib.hid hF1
  clear hF1
  go_enter Try.func44, Try.ntmps44
  go_wp2_with fail
  rw [← hW1]
  clear hW1
  have KEEP : Hid (∀ w', Frm NoS W1 w' → w'.cell? ⟨w.heap.size, 0, none⟩ = some (.int .i64 (T : Int)) ∧ w'.cell? ⟨w.heap.size, 1, none⟩ = some (.int .i64 B) ∧ w'.cell? ⟨w.heap.size, 2, none⟩ = some (.int .i64 I) ∧ w'.cell? ⟨w.heap.size, 3, none⟩ = some (zv) ∧ w'.cell? ⟨w.heap.size + 1, 0, none⟩ = some (.int .i64 5) ∧ w'.cell? ⟨w.heap.size + 1, 1, none⟩ = some (.int .i64 t) ∧ w'.cell? ⟨w.heap.size + 1, 2, none⟩ = some (.int .i64 n) ∧ w'.cell? ⟨w.heap.size + 1, 3, none⟩ = some (.int .i64 x.num) ∧ w'.cell? ⟨w.heap.size + 1, 4, none⟩ = some (.slice A x.h.length c) ∧ w'.cell? ⟨w.heap.size + 1, 5, none⟩ = some (.slice A' x.b.length c') ∧ Frm NoS W1 w') := fun w' hf => ⟨hf.keep z0 (fun h => h), hf.keep z1 (fun h => h), hf.keep z2 (fun h => h), hf.keep z3 (fun h => h), hf.keep o0 (fun h => h), hf.keep o1 (fun h => h), hf.keep o2 (fun h => h), hf.keep o3 (fun h => h), hf.keep o4 (fun h => h), hf.keep o5 (fun h => h), hf⟩
  have kz := (KEEP.out _ (Frm.refl _ _)).2.2.2.2.2.2.2.2.2.2
  clear kz
  refine (refDrop_any n _ (HR.out _ HF1.out) hfew).mono ?_
  rintro r w12 ⟨v5, rfl, hri, hb12⟩
  have hN5 := KEEP.out _ (Frm.of_below hb12)
  have HRI := Lib.hid hri
  obtain ⟨A5, c5, rfl, _⟩ := hri
  have HZ5 := Lib.hid HF1.out.size
  clear hb12
  clear z0 z1 z2 z3 o0 o1 o2 o3 o4 o5
  obtain ⟨z0, z1, z2, z3, o0, o1, o2, o3, o4, o5, hF12⟩ := hN5
  have HF12 := Lib.hid (HF1.out.trans hF12)
  have HQ12 := Lib.hid (HQF.out _ HF12.out)
  have HDR := Lib.hid (drop_any t n _ HQ12.out h0 h1)
  clear hF12
  generalize hdd : (dropN n (m t.toNat)).length = dl at *
  generalize hmm : (m t.toNat).length = ml at *
  have HDD := Lib.hid hdd
  have HMM := Lib.hid hmm
  clear hdd hmm
  go_wp2_with fail
  refine HDR.out.mono ?_
  rintro r w13 ⟨rfl, hq13, hf13⟩
  have HQ13 := Lib.hid hq13
  have HF13 := Lib.hid hf13
  clear hq13 hf13 HDR
  have fin : OnePost tg ok w q bl T B I m t.toNat (dropN n (m t.toNat)) (.returned (.tuple #[.slice A5 dl c5, .bool true])) w13 := by
    have tz := HQ.out.tz
    have hz5 := HZ5.out
    refine ⟨_, tg, rfl, ?_, HQ13.out, fun k hk => rfl, (HF12.out.mono (fun _ _ _ h => h.elim)).trans (HF13.out.mono (fun _ _ _ h => h.le)), by rw [HDD.out]; exact HDL.out⟩
    exact (HRI.out.frm HF13.out (fun k j hk hS => by have := tz k (Nat.le_trans hz5 hk.1); have := hS.le; omega)).mono (fun k _ hk => ⟨tz k (Nat.le_trans hz5 hk.1), .inr (Nat.le_trans hz5 hk.1)⟩)
  have FIN := Lib.hid fin
  clear fin
  rcases hdl with ⟨e1, e2⟩ | ⟨e1, e2⟩
  · rw [e1]
    clear e1
    go_wp2_with fail
    go_ret2
    exact FIN.out
  · rw [e1]
    clear e1
    have e3 : decide (dl < ml) = false := by simp; omega
    clear e2
    go_wp2_with fail
    go_ret2
    exact FIN.out
end Go.Proofs.Ytpihldeikdiniaa
