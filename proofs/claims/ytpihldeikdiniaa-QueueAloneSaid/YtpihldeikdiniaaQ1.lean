/- Package queue: how a queue lies in memory; of, Len, Bytes; a slice of bytes, copied. -/
import Derived.Test.YtpihldeikdiniaaProg
import Derived.Test.YtpihldeikdiniaaBase
import Derived.Deep.QuietTactic
import Derived.BigQuiet
import Derived.Deep.RegionHeld3
import Derived.Deep.AppendLies
import Derived.KernelRfl
namespace Go.Proofs.Ytpihldeikdiniaa
open Go.RowKit
set_option linter.unusedVariables false
set_option linter.unusedSimpArgs false
/-- A slice value that reads as these bytes; its block is one of ok. -/
def BytesIn (ok : Nat → Prop) (w : World) (v : Value) (l : List UInt8) : Prop :=
  ∃ A cap, v = .slice A l.length cap ∧ l.length ≤ cap ∧ cap ≤ maxLen ∧ l.length ≤ 140737488351232 ∧ (0 < l.length → ∃ b o, A = some ⟨b, o, none⟩ ∧ ok b ∧ ∀ j x, l[j]? = some x → w.cell? ⟨b, o + j, none⟩ = some (.int .u8 x.toNat))
theorem BytesIn.frm {ok : Nat → Prop} {S : Nat → Nat → Prop} {w w' : World} {v : Value} {l : List UInt8} (h : BytesIn ok w v l) (hf : Frm S w w') (hn : ∀ k j, ok k → ¬ S k j) : BytesIn ok w' v l := by
  obtain ⟨A, cap, hv, hl, hm, hb, hc⟩ := h
  refine ⟨A, cap, hv, hl, hm, hb, fun h0 => ?_⟩
  obtain ⟨b, o, hA, hok, hcell⟩ := hc h0
  exact ⟨b, o, hA, hok, fun j x hj => hf.keep (hcell j x hj) (hn _ _ hok)⟩
theorem BytesIn.mono {ok ok' : Nat → Prop} {w : World} {v : Value} {l : List UInt8} (h : BytesIn ok w v l) (hok : ∀ k, k < w.heap.size → ok k → ok' k) : BytesIn ok' w v l := by
  obtain ⟨A, cap, hv, hl, hm, hb, hc⟩ := h
  refine ⟨A, cap, hv, hl, hm, hb, fun h0 => ?_⟩
  obtain ⟨b, o, hA, ho, hcell⟩ := hc h0
  exact ⟨b, o, hA, hok _ (World.block_lt_of_cell? w _ (hcell 0 _ (List.getElem?_eq_getElem h0))) ho, hcell⟩
/-- An item as the document has it. -/
structure QI where
  num : Int
  h : List UInt8
  b : List UInt8
  deriving DecidableEq
def QI.size (x : QI) : Int := (x.h.length : Int) + x.b.length
/-- An item's three cells. -/
def ItemIn (ok : Nat → Prop) (w : World) (x : QI) (c : List Value) : Prop :=
  ∃ hv bv, c = [.int .i64 x.num, hv, bv] ∧ BytesIn ok w hv x.h ∧ BytesIn ok w bv x.b
theorem ItemIn.frm {ok : Nat → Prop} {S : Nat → Nat → Prop} {w w' : World} {x : QI} {c : List Value} (h : ItemIn ok w x c) (hf : Frm S w w') (hn : ∀ k j, ok k → ¬ S k j) : ItemIn ok w' x c := by
  obtain ⟨hv, bv, rfl, h1, h2⟩ := h
  exact ⟨hv, bv, rfl, h1.frm hf hn, h2.frm hf hn⟩
theorem ItemIn.mono {ok ok' : Nat → Prop} {w : World} {x : QI} {c : List Value} (h : ItemIn ok w x c) (hok : ∀ k, k < w.heap.size → ok k → ok' k) : ItemIn ok' w x c := by
  obtain ⟨hv, bv, rfl, h1, h2⟩ := h
  exact ⟨hv, bv, rfl, h1.mono hok, h2.mono hok⟩
theorem ItemIn.len {ok : Nat → Prop} {w : World} {x : QI} {c : List Value} (h : ItemIn ok w x c) : c.length = 3 := by
  obtain ⟨_, _, rfl, _⟩ := h
  rfl
/-- Items, each with its cells. -/
inductive Items (ok : Nat → Prop) (w : World) : List QI → List (List Value) → Prop
  | nil : Items ok w [] []
  | cons {x c l r} : ItemIn ok w x c → Items ok w l r → Items ok w (x :: l) (c :: r)
theorem Items.frm {ok : Nat → Prop} {S : Nat → Nat → Prop} {w w' : World} {l : List QI} {r : List (List Value)} (h : Items ok w l r) (hf : Frm S w w') (hn : ∀ k j, ok k → ¬ S k j) : Items ok w' l r := by
  induction h with
  | nil => exact .nil
  | cons h1 _ ih => exact .cons (h1.frm hf hn) ih
theorem Items.mono {ok ok' : Nat → Prop} {w : World} {l : List QI} {r : List (List Value)} (h : Items ok w l r) (hok : ∀ k, k < w.heap.size → ok k → ok' k) : Items ok' w l r := by
  induction h with
  | nil => exact .nil
  | cons h1 _ ih => exact .cons (h1.mono hok) ih
theorem Items.len {ok : Nat → Prop} {w : World} {l : List QI} {r : List (List Value)} (h : Items ok w l r) : r.length = l.length := by
  induction h with
  | nil => rfl
  | cons _ _ ih => simp [ih]
theorem Items.flat {ok : Nat → Prop} {w : World} {l : List QI} {r : List (List Value)} (h : Items ok w l r) : r.flatten.length = l.length * 3 := by
  induction h with
  | nil => rfl
  | cons h1 _ ih => simp [h1.len, ih]; omega
theorem Items.append {ok : Nat → Prop} {w : World} {l l' : List QI} {r r' : List (List Value)} (h : Items ok w l r) (h' : Items ok w l' r') : Items ok w (l ++ l') (r ++ r') := by
  induction h with
  | nil => exact h'
  | cons h1 _ ih => exact .cons h1 ih
theorem Items.get {ok : Nat → Prop} {w : World} {l : List QI} {r : List (List Value)} (h : Items ok w l r) {i : Nat} {x : QI} (hi : l[i]? = some x) : ∃ c, r[i]? = some c ∧ ItemIn ok w x c ∧ ∀ j u, c[j]? = some u → r.flatten[i * 3 + j]? = some u := by
  induction h generalizing i with
  | nil => simp at hi
  | @cons y d l r h1 h2 ih =>
    cases i with
    | zero =>
      have : y = x := by simpa using hi
      subst this
      refine ⟨d, rfl, h1, fun j u hj => ?_⟩
      have hlt := (List.getElem?_eq_some_iff.1 hj).1
      simp only [List.flatten_cons]
      rw [List.getElem?_append_left (by omega)]
      simpa using hj
    | succ i =>
      obtain ⟨c, hc, hx, hcell⟩ := ih (by simpa using hi)
      refine ⟨c, by simpa using hc, hx, fun j u hj => ?_⟩
      simp only [List.flatten_cons]
      rw [List.getElem?_append_right (by rw [h1.len]; omega), h1.len]
      have := hcell j u hj
      rwa [show (i + 1) * 3 + j - 3 = i * 3 + j from by omega]
theorem Items.tail {ok : Nat → Prop} {w : World} {x : QI} {l : List QI} {r : List (List Value)} (h : Items ok w (x :: l) r) : ∃ c r', r = c :: r' ∧ ItemIn ok w x c ∧ Items ok w l r' := by
  cases h with
  | cons h1 h2 => exact ⟨_, _, rfl, h1, h2⟩
/-- A tenant's items in a row of their own (in a block of okl); their bytes lie in blocks of okb. -/
structure LineIn (okl okb : Nat → Prop) (w : World) (v : Value) (l : List QI) (r : List (List Value)) : Prop where
  items : Items okb w l r
  own : w.ownsRow 0 57 3 v l.length r.flatten
  ok : ∀ k, v.ownBlock = some k → okl k
  few : l.length ≤ 4096
theorem own_frm {S : Nat → Nat → Prop} {w w' : World} {base : Nat} {e : TypeId} {size n : Nat} {v : Value} {xs : List Value} (h : w.ownsRow base e size v n xs) (hf : Frm S w w') (hn : ∀ k, v.ownBlock = some k → ∀ j, ¬ S k j) : w'.ownsRow base e size v n xs := by
  refine ⟨h.1, ?_⟩
  rcases h.2 with hn' | ⟨g, cap, cur, rfl, hb, hgg, rest⟩
  · exact .inl hn'
  · exact .inr ⟨g, cap, cur, rfl, hb, hf.blk hgg (hn g rfl), rest⟩
theorem LineIn.frm {okl okb : Nat → Prop} {S : Nat → Nat → Prop} {w w' : World} {v : Value} {l : List QI} {r : List (List Value)} (h : LineIn okl okb w v l r) (hf : Frm S w w') (hl : ∀ k j, okl k → ¬ S k j) (hb : ∀ k j, okb k → ¬ S k j) : LineIn okl okb w' v l r :=
  ⟨h.items.frm hf hb, own_frm h.own hf (fun k hk j => hl k j (h.ok k hk)), h.ok, h.few⟩
def qbytes : List QI → Int
  | [] => 0
  | x :: l => x.size + qbytes l
theorem qbytes_append (a b : List QI) : qbytes (a ++ b) = qbytes a + qbytes b := by
  induction a with
  | nil => simp [qbytes]
  | cons x a ih => simp [qbytes, ih]; omega
theorem qbytes_nn (l : List QI) : 0 ≤ qbytes l := by
  induction l with
  | nil => exact Int.le_refl 0
  | cons x l ih => simp only [qbytes, QI.size]; omega
/-- A queue of T tenants at block q, its lines in block bl. tg: what each block is to the queue (1: itself, 2: its lines, 3: bytes, 4 and t: the row of tenant t's items; 0: nothing). -/
structure QRep (tg : Nat → Nat) (w : World) (q bl T : Nat) (B I : Int) (m : Nat → List QI) : Prop where
  tq : tg q = 1
  tl : tg bl = 2
  T1 : 1 ≤ T ∧ T ≤ 64
  B1 : 0 ≤ B ∧ B ≤ 1048576
  I1 : 1 ≤ I ∧ I ≤ 4096
  c0 : w.cell? ⟨q, 0, none⟩ = some (.slice (some ⟨bl, 0, none⟩) T T)
  c1 : w.cell? ⟨q, 1, none⟩ = some (.int .i64 B)
  c2 : w.cell? ⟨q, 2, none⟩ = some (.int .i64 I)
  line : ∀ t, t < T → ∃ v r, w.cell? ⟨bl, t * 2, none⟩ = some v ∧ LineIn (fun k => tg k = 4 + t) (fun k => tg k = 3) w v (m t) r
  cnt : ∀ t, t < T → w.cell? ⟨bl, t * 2 + 1, none⟩ = some (.int .i64 (qbytes (m t)))
  fz : ∀ j, w.frozen? ⟨bl, j, none⟩ = false
  lim : ∀ t, t < T → qbytes (m t) ≤ B
  lt : ∀ k, tg k ≠ 0 → k < w.heap.size
theorem QRep.frm {tg : Nat → Nat} {w w' : World} {q bl T : Nat} {B I : Int} {m : Nat → List QI} {S : Nat → Nat → Prop} (h : QRep tg w q bl T B I m) (hf : Frm S w w') (hn : ∀ k j, tg k ≠ 0 → ¬ S k j) : QRep tg w' q bl T B I m where
  lt := fun k hk => Nat.lt_of_lt_of_le (h.lt k hk) hf.size
  tq := h.tq
  tl := h.tl
  T1 := h.T1
  B1 := h.B1
  I1 := h.I1
  c0 := hf.keep h.c0 (hn _ _ (by rw [h.tq]; decide))
  c1 := hf.keep h.c1 (hn _ _ (by rw [h.tq]; decide))
  c2 := hf.keep h.c2 (hn _ _ (by rw [h.tq]; decide))
  line := fun t ht => by
    obtain ⟨v, r, hv, hl⟩ := h.line t ht
    exact ⟨v, r, hf.keep hv (hn _ _ (by rw [h.tl]; decide)), hl.frm hf (fun k j hk => hn k j (by omega)) (fun k j hk => hn k j (by omega))⟩
  cnt := fun t ht => hf.keep (h.cnt t ht) (hn _ _ (by rw [h.tl]; decide))
  fz := fun j => (hf.frozen (p := ⟨bl, j, none⟩) (by obtain ⟨v, r, hv, _⟩ := h.line 0 h.T1.1; have := World.block_lt_of_cell? w _ hv; exact this) (hn _ 0 (by show tg bl ≠ 0; rw [h.tl]; decide))).trans (h.fz j)
  lim := h.lim
set_option maxHeartbeats 400000 in
theorem of_yes {tg : Nat → Nat} {q bl T : Nat} {B I : Int} {m : Nat → List QI} (t : Int) (w : World) (h : QRep tg w q bl T B I m) (h0 : 0 ≤ t) (h1 : t < T) :
    Calls Try.prog 73 #[.pointer (some ⟨q, 0, none⟩), .int .i64 t] w fun r w' => r = .returned (.pointer (some ⟨bl, t.toNat * 2, none⟩)) ∧ w = w' := by
  have hc0 := h.c0
  have hT := h.T1
  clear h
  go_enter Try.func73, Try.ntmps73
  go_wp2
  go_ret
  exact ⟨rfl, rfl⟩
set_option maxHeartbeats 400000 in
theorem of_no {tg : Nat → Nat} {q bl T : Nat} {B I : Int} {m : Nat → List QI} (t : Int) (w : World) (h : QRep tg w q bl T B I m) (hn : t < 0 ∨ T ≤ t) :
    Calls Try.prog 73 #[.pointer (some ⟨q, 0, none⟩), .int .i64 t] w fun r w' => r = .returned (.pointer none) ∧ w = w' := by
  have hc0 := h.c0
  have hT := h.T1
  clear h
  rcases hn with hn | hn
  all_goals
    go_enter Try.func73, Try.ntmps73
    go_wp2
    all_goals go_ret
    all_goals exact ⟨rfl, rfl⟩
/-- What a tenant that there is not has: nothing. -/
def mAt (m : Nat → List QI) (T : Nat) (t : Int) : List QI := if 0 ≤ t ∧ t < T then m t.toNat else []
set_option maxHeartbeats 400000 in
theorem len_any {tg : Nat → Nat} {q bl T : Nat} {B I : Int} {m : Nat → List QI} (t : Int) (w : World) (h : QRep tg w q bl T B I m) :
    Calls Try.prog 39 #[.pointer (some ⟨q, 0, none⟩), .int .i64 t] w fun r w' => r = .returned (.int .i64 (mAt m T t).length) ∧ w = w' := by
  by_cases ht : 0 ≤ t ∧ t < T
  · obtain ⟨h0, h1⟩ := ht
    have he : mAt m T t = m t.toNat := by simp [mAt, h0, h1]
    rw [he]
    obtain ⟨v, r, hv, hl⟩ := h.line t.toNat (by omega)
    have hvs : ∃ A c, v = .slice A (m t.toNat).length c := by
      rcases hl.own.2 with ⟨rfl, hz⟩ | ⟨g, cap, cur, rfl, _⟩
      · exact ⟨none, 0, by rw [hz]⟩
      · exact ⟨_, _, rfl⟩
    obtain ⟨A, c, rfl⟩ := hvs
    have HO := Lib.hid (of_yes t w h h0 h1)
    clear h hl he
    generalize (m t.toNat).length = n at *
    go_enter Try.func39, Try.ntmps39
    go_wp2_with (go_at_call 73; refine HO.out.mono ?_; rintro r w' ⟨rfl, rfl⟩)
    go_ret
    exact ⟨rfl, rfl⟩
  · have he : mAt m T t = [] := by simp [mAt]; omega
    rw [he]
    have HO := Lib.hid (of_no t w h (by omega))
    clear h he
    go_enter Try.func39, Try.ntmps39
    go_wp2_with (go_at_call 73; refine HO.out.mono ?_; rintro r w' ⟨rfl, rfl⟩)
    go_ret
    exact ⟨rfl, rfl⟩
set_option maxHeartbeats 400000 in
theorem bytes_any {tg : Nat → Nat} {q bl T : Nat} {B I : Int} {m : Nat → List QI} (t : Int) (w : World) (h : QRep tg w q bl T B I m) :
    Calls Try.prog 42 #[.pointer (some ⟨q, 0, none⟩), .int .i64 t] w fun r w' => r = .returned (.int .i64 (qbytes (mAt m T t))) ∧ w = w' := by
  by_cases ht : 0 ≤ t ∧ t < T
  · obtain ⟨h0, h1⟩ := ht
    have he : mAt m T t = m t.toNat := by simp [mAt, h0, h1]
    rw [he]
    have hc := h.cnt t.toNat (by omega)
    have HO := Lib.hid (of_yes t w h h0 h1)
    clear h he
    generalize qbytes (m t.toNat) = n at *
    go_enter Try.func42, Try.ntmps42
    go_wp2_with (go_at_call 73; refine HO.out.mono ?_; rintro r w' ⟨rfl, rfl⟩)
    go_ret
    exact ⟨rfl, rfl⟩
  · have he : mAt m T t = [] := by simp [mAt]; omega
    rw [he]
    have HO := Lib.hid (of_no t w h (by omega))
    clear h he
    go_enter Try.func42, Try.ntmps42
    go_wp2_with (go_at_call 73; refine HO.out.mono ?_; rintro r w' ⟨rfl, rfl⟩)
    go_ret
    exact ⟨rfl, rfl⟩
end Go.Proofs.Ytpihldeikdiniaa
