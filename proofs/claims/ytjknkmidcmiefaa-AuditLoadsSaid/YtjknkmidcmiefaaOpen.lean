/- An argument that is a slice of events, opened. -/
import Derived.Test.YtjknkmidcmiefaaSpec
import Derived.ProofKit
import Derived.Deep.Slices
import Derived.OpenShut
namespace Go.Proofs.Ytjknkmidcmiefaa
open Go.ChangeShapes Go.WideShapes Go.ChangeAt Go.RowKit Go.Deep

instance : Inhabited Ev := ⟨⟨0, 0, 0, 0⟩⟩

theorem cells36 : Try.prog.cellsOf 36 = 4 := by kernel_rfl

theorem add_add' (a : Addr) (i j : Nat) (h : 0 < j) : (a.add i).add j = ⟨(a.add i).block, (a.add i).off + j, none⟩ := by
  rw [Addr.add]
  split <;> first | omega | rfl

section
variable {H : Type} {enc : TypeId × Value → H} {w : World}

theorem open_event {n : Nat} {cs : List Value} {x : DataW H × List MemPlace} (h : DataW.trod enc Try.prog w 0 (fun _ => true) true n 36 cs = some x) :
    ∃ e : Ev, cs = [.int .i64 e.who, .int .i64 e.kind, .int .i64 e.a, .int .i64 e.b] ∧ EvOk e := by
  obtain ⟨xs, m, _, _, hcl, hxl, hf⟩ := DataW.trod_struct Try.underlying36 h
  rw [cells36] at hcl
  have c3 : Try.prog.cellsOf 3 = 1 := by kernel_rfl
  match cs, hcl with
  | [v0, v1, v2, v3], _ =>
    have one : ∀ (i : Nat) (f : Field) (v : Value), (#[{ name := "Who", type := 3, offset := 0, embedded := false, tag := "", pkgPath := "", byteOffset := 0 }, { name := "Kind", type := 3, offset := 1, embedded := false, tag := "", pkgPath := "", byteOffset := 8 }, { name := "A", type := 3, offset := 2, embedded := false, tag := "", pkgPath := "", byteOffset := 16 }, { name := "B", type := 3, offset := 3, embedded := false, tag := "", pkgPath := "", byteOffset := 24 }] : Array Field)[i]? = some f →
        f.type = 3 → (([v0, v1, v2, v3] : List Value).drop f.offset).take 1 = [v] → i < 4 → ∃ a, v = .int .i64 a ∧ I64 a := by
      intro i f v hi ht hv hi4
      have h1 := hf i f hi
      rw [ht, c3, hv] at h1
      have hs : ∃ y, xs[i]? = some y := ⟨_, List.getElem?_eq_getElem (by rw [hxl]; exact hi4)⟩
      obtain ⟨y, hy⟩ := hs
      rw [hy] at h1
      obtain ⟨a, ha, _, hw⟩ := DataW.trod_int Try.underlying3 h1
      simp at ha
      refine ⟨a, ha, ?_⟩
      have hw2 : IntKind.i64.min ≤ a ∧ a ≤ 9223372036854775807 := by simpa [Lit.wf] using hw
      exact hw2
    obtain ⟨a0, rfl, w0⟩ := one 0 _ v0 rfl rfl rfl (by omega)
    obtain ⟨a1, rfl, w1⟩ := one 1 _ v1 rfl rfl rfl (by omega)
    obtain ⟨a2, rfl, w2⟩ := one 2 _ v2 rfl rfl rfl (by omega)
    obtain ⟨a3, rfl, w3⟩ := one 3 _ v3 rfl rfl rfl (by omega)
    exact ⟨⟨a0, a1, a2, a3⟩, rfl, ⟨w0, w1, w2, w3⟩⟩

theorem open_events {a : Option Addr} {len cap : Nat} {d : DataW H} {p : List MemPlace} (h : DataW.Trod enc Try.prog w 0 (fun _ => true) true 22 (.slice a len cap) d p) :
    ∃ l : List Ev, l.length = len ∧ EvsAt w a l ∧ (∀ e ∈ l, EvOk e) ∧ len ≤ cap ∧ cap ≤ maxLen := by
  obtain ⟨fuel, hf⟩ := h
  rcases open_slice Try.underlying22 hf with ⟨hcs, _⟩ | ⟨ad, len', cap', m, n, D, Pl, hcs, _, hl, hm, hmm, _, hi⟩
  · simp [Value.cells] at hcs
    obtain ⟨rfl, rfl, rfl⟩ := hcs
    exact ⟨[], rfl, fun i hi => by simp at hi, fun e he => by simp at he, Nat.le_refl _, Nat.zero_le _⟩
  · simp [Value.cells] at hcs
    obtain ⟨rfl, rfl, rfl⟩ := hcs
    rw [if_pos rfl] at hmm
    have hE : ∀ i, i < len → ∃ e : Ev, w.cells? 0 (ad.add (i * 4)) 4 = some [.int .i64 e.who, .int .i64 e.kind, .int .i64 e.a, .int .i64 e.b] ∧ EvOk e := by
      intro i hil
      obtain ⟨cs', h1, h2⟩ := hi i (by omega)
      rw [cells36] at h1
      obtain ⟨e, rfl, he⟩ := open_event h2
      exact ⟨e, h1, he⟩
    obtain ⟨f, hf⟩ := choose_lt (α := Ev) hE
    refine ⟨(List.range len).map f, by simp, fun i hi' => ?_, fun e he => ?_, hl, hm⟩
    · simp at hi'
      obtain ⟨h1, _⟩ := hf i hi'
      obtain ⟨_, _, h2⟩ := World.cells?_some h1
      simp only [List.getElem_map, List.getElem_range]
      refine ⟨ad, rfl, ?_, ?_, ?_, ?_⟩
      · have := h2 0 (by omega)
        simpa [Addr.add] using this
      · rw [← add_add' _ _ _ (by omega)]; exact h2 1 (by omega)
      · rw [← add_add' _ _ _ (by omega)]; exact h2 2 (by omega)
      · rw [← add_add' _ _ _ (by omega)]; exact h2 3 (by omega)
    · simp at he
      obtain ⟨i, hil, rfl⟩ := he
      exact (hf i hil).2
end

end Go.Proofs.Ytjknkmidcmiefaa
