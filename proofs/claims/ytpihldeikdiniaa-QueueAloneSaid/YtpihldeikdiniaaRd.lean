/- What came in, read shape by shape, with the bound on its bytes: structs, slices, numbers, bools, strings, arrays. -/
import Derived.Test.YtpihldeikdiniaaBase
import Derived.Deep.Slices
import Derived.Deep.Fields
import Derived.ChangeOld
import Derived.SizedLaws
import Derived.OpenShut
namespace Go.Proofs.Ytpihldeikdiniaa
open Go.ChangeShapes Go.WideShapes Go.Deep
set_option linter.unusedVariables false
set_option linter.unusedSimpArgs false
theorem arr_eq {α : Type} {C : Array α} {l : List α} (h : C.toList = l) : C = l.toArray := by
  subst h
  exact (Array.toArray_toList).symm
section
variable {H : Type} {enc : TypeId × Value → H} {P : Program} {w : World}
/-- Cells that read as a datum of this type, all of whose slices and strings are within the reach. -/
def Rd (enc : TypeId × Value → H) (P : Program) (w : World) (t : TypeId) (cs : List Value) : Prop :=
  ∃ n y, DataW.trod enc P w 0 (fun _ => true) true n t cs = some y ∧ ∀ m ∈ y.1.weights P t, m ≤ reachBytes
theorem weightsEach_get {ts : List TypeId} {ds : List (DataW H)} {j : Nat} {t : TypeId} {d : DataW H} (ht : ts[j]? = some t) (hd : ds[j]? = some d) (h : ∀ m ∈ DataW.weightsEach P ts ds, m ≤ reachBytes) : ∀ m ∈ d.weights P t, m ≤ reachBytes :=
  fun m hm => h m (DataW.weights_mem_each ht hd m hm)
theorem weightsAll_get {e : TypeId} {ds : List (DataW H)} {j : Nat} {d : DataW H} (hd : ds[j]? = some d) : ∀ m ∈ d.weights P e, m ∈ DataW.weightsAll P e ds := by
  induction ds generalizing j with
  | nil => simp at hd
  | cons x ds ih =>
    intro m hm
    unfold DataW.weightsAll
    cases j with
    | zero =>
      obtain rfl : x = d := by simpa using hd
      exact List.mem_append_left _ hm
    | succ j => exact List.mem_append_right _ (ih (by simpa using hd) m hm)
theorem Rd.top {T : TypeId} {v : Value} {d : DataW H} {p : List MemPlace} (h : DataW.Trod enc P w 0 (fun _ => true) true T v d p) (hs : ∀ m ∈ d.weights P T, m ≤ reachBytes) : Rd enc P w T v.cells.toList := by
  obtain ⟨n, hn⟩ := h
  exact ⟨n, _, hn, hs⟩
theorem Rd.int {t : TypeId} {cs : List Value} {k : IntKind} (h : Rd enc P w t cs) (ht : P.underlying t = some (.int k)) : ∃ z, cs = [.int k z] ∧ (Lit.int k z).wf = true := by
  obtain ⟨n, y, hn, _⟩ := h
  obtain ⟨z, h1, _, h2⟩ := DataW.trod_int ht hn
  exact ⟨z, h1, h2⟩
theorem Rd.bool {t : TypeId} {cs : List Value} (h : Rd enc P w t cs) (ht : P.underlying t = some .bool) : ∃ b, cs = [.bool b] := by
  obtain ⟨n, y, hn, _⟩ := h
  obtain ⟨z, h1, _⟩ := DataW.trod_bool ht hn
  exact ⟨z, h1⟩
theorem Rd.string {t : TypeId} {cs : List Value} (h : Rd enc P w t cs) (ht : P.underlying t = some .string) : ∃ s : ByteArray, cs = [.string s] ∧ s.size ≤ reachBytes := by
  obtain ⟨n, y, hn, hs⟩ := h
  obtain ⟨z, h1, h2, _⟩ := DataW.trod_string ht hn
  refine ⟨z, h1, ?_⟩
  have := hs z.data.toList.length (by rw [h2]; simp [DataW.weights])
  rw [Array.length_toList] at this
  exact this
theorem Rd.struct {t : TypeId} {cs : List Value} {fs : Array Field} (h : Rd enc P w t cs) (ht : P.underlying t = some (.struct fs)) :
    cs.length = P.cellsOf t ∧ ∀ (i : Nat) (f : Field), fs[i]? = some f → Rd enc P w f.type ((cs.drop f.offset).take (P.cellsOf f.type)) := by
  obtain ⟨n, y, hn, hs⟩ := h
  obtain ⟨xs, m, _, rfl, hl, hx, hf⟩ := DataW.trod_struct ht hn
  refine ⟨hl, fun i f hi => ?_⟩
  have hlt : i < xs.length := by rw [hx]; exact (Array.getElem?_eq_some_iff.1 hi).1
  have h1 := hf i f hi
  rw [List.getElem?_eq_getElem hlt] at h1
  refine ⟨m, _, h1, ?_⟩
  have hs' : ∀ k ∈ DataW.weightsEach P (fs.toList.map (·.type)) (xs.map (·.1)), k ≤ reachBytes := fun k hk => hs k (by simp only [DataW.weights, ht]; exact hk)
  exact weightsEach_get (j := i) (by simp [hi]) (by simp [List.getElem?_eq_getElem hlt]) hs'
theorem Rd.field {t : TypeId} {cs : List Value} {fs : Array Field} (h : Rd enc P w t cs) (ht : P.underlying t = some (.struct fs)) (i : Nat) (f : Field) (hi : fs[i]? = some f) (o n : Nat) (T : TypeId) (ho : f.offset = o) (hT : f.type = T) (hn : P.cellsOf T = n) :
    Rd enc P w T ((cs.drop o).take n) := by
  subst ho hT hn
  exact (h.struct ht).2 i f hi
theorem Rd.array {t e : TypeId} {cs : List Value} {n : Nat} (h : Rd enc P w t cs) (ht : P.underlying t = some (.array n e)) :
    cs.length = P.cellsOf t ∧ ∀ i, i < n → Rd enc P w e ((cs.drop (i * P.cellsOf e)).take (P.cellsOf e)) := by
  obtain ⟨k, y, hn, hs⟩ := h
  obtain ⟨xs, m, _, rfl, hl, hx, hf⟩ := DataW.trod_array ht hn
  refine ⟨hl, fun i hi => ?_⟩
  have hlt : i < xs.length := by omega
  have h1 := hf i hi
  rw [List.getElem?_eq_getElem hlt] at h1
  refine ⟨m, _, h1, fun k hk => hs k ?_⟩
  simp only [DataW.weights, ht]
  exact weightsAll_get (j := i) (by simp [List.getElem?_eq_getElem hlt]) k hk
theorem Rd.slice {t e : TypeId} {cs : List Value} (h : Rd enc P w t cs) (ht : P.underlying t = some (.slice e)) :
    cs = [.slice none 0 0] ∨ ∃ (a : Addr) (len cap : Nat), cs = [.slice (some a) len cap] ∧ len ≤ cap ∧ cap ≤ maxLen ∧ cap * P.bytesOf e ≤ reachBytes ∧
      ∀ i, i < cap → ∃ cs', w.cells? 0 (a.add (i * P.cellsOf e)) (P.cellsOf e) = some cs' ∧ Rd enc P w e cs' := by
  obtain ⟨k, y, hn, hs⟩ := h
  rcases open_slice ht hn with ⟨hcs, _⟩ | ⟨a, len, cap, m, n, D, Pl, hcs, _, hl, hm, hmm, rfl, hi⟩
  · exact .inl hcs
  · have hmc : m = cap := by simpa using hmm
    subst hmc
    refine .inr ⟨a, len, m, hcs, hl, hm, ?_, fun i hi' => ?_⟩
    · have := hs ((((List.range len).map D).length + ((List.range (m - len)).map fun j => D (len + j)).length) * P.bytesOf e) (by simp [DataW.weights, ht])
      simp only [List.length_map, List.length_range] at this
      rwa [show len + (m - len) = m from by omega] at this
    · obtain ⟨cs', h1, h2⟩ := hi i hi'
      refine ⟨cs', h1, n, _, h2, fun q hq => hs q ?_⟩
      simp only [DataW.weights, ht, List.mem_cons, List.mem_append]
      right
      by_cases hlt : i < len
      · left
        exact weightsAll_get (j := i) (by simp [hlt]) q hq
      · right
        exact weightsAll_get (j := i - len) (d := D i) (by
          rw [List.getElem?_map, List.getElem?_range (by omega)]
          simp [show len + (i - len) = i from by omega]) q hq
end
end Go.Proofs.Ytpihldeikdiniaa
