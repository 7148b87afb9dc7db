/- Maps that the call itself makes, with integer elements, read as plain functions: look-up, and 'm[k]++' (an entry made or found, then stored into). -/
import Derived.WalkKit
import Derived.Maps.Own
import Derived.Maps.OwnOps
import Derived.WideKeyEntry
namespace Go.Proofs.Ytjknkmidcmiefaa
open Go.RowKit
open Go.Maps (Keyed)
open Go.ChangeMaps (setBlock modify_eq_set)

/-- A family of keys: how a key stands as a value, which keys may be asked. -/
structure KeyFam (P : Program) (k : TypeId) (α : Type) where
  enc : α → Value
  ok : α → Prop
  key : ∀ a, ok a → ∃ l, keyOf P k (enc a) = some l
  inj : ∀ a b, ok a → ok b → enc a = enc b → a = b

/-- Block b of w is a map of at most n entries, integers, that answers f. -/
def MapIs {P : Program} {k : TypeId} {α : Type} (F : KeyFam P k α) (w : World) (b n : Nat) (f : α → Int) : Prop :=
  ∃ es clock, w.heap[b]? = some (.map es clock) ∧ es.size ≤ n ∧ (∀ x ∈ es.toList, x.born < clock) ∧ (es.toList.map (·.born)).Nodup ∧
    (∀ (i j : Nat) (x y : MapEntry), es.toList[i]? = some x → es.toList[j]? = some y → x.key = y.key → i = j) ∧
    (∀ x ∈ es.toList, ∃ a, F.ok a ∧ x.key = F.enc a ∧ x.val = .int .i64 (f a)) ∧ (∀ a, F.ok a → (∀ x ∈ es.toList, x.key ≠ F.enc a) → f a = 0)

section
variable {P : Program} {k : TypeId} {α : Type} {F : KeyFam P k α} {w w' : World} {b n : Nat} {f g : α → Int}

theorem MapIs.lt (h : MapIs F w b n f) : b < w.heap.size := by
  obtain ⟨es, clock, hb, _⟩ := h
  exact (Array.getElem?_eq_some_iff.1 hb).1

theorem MapIs.of_block (h : MapIs F w b n f) (e : w'.heap[b]? = w.heap[b]?) : MapIs F w' b n f := by
  obtain ⟨es, clock, hb, r⟩ := h
  exact ⟨es, clock, e.trans hb, r⟩

theorem MapIs.mono {m : Nat} (h : MapIs F w b n f) (hm : n ≤ m) : MapIs F w b m f := by
  obtain ⟨es, clock, hb, hs, r⟩ := h
  exact ⟨es, clock, hb, by omega, r⟩

theorem MapIs.congr (h : MapIs F w b n f) (e : ∀ a, F.ok a → f a = g a) : MapIs F w b n g := by
  obtain ⟨es, clock, hb, hs, h1, h2, h3, h4, h5⟩ := h
  refine ⟨es, clock, hb, hs, h1, h2, h3, fun x hx => ?_, fun a ha hx => (e a ha).symm.trans (h5 a ha hx)⟩
  obtain ⟨a, ha, hk, hv⟩ := h4 x hx
  exact ⟨a, ha, hk, by rw [hv, e a ha]⟩

theorem MapIs.alloc (h : MapIs F w b n f) (o : Obj) : MapIs F (w.alloc o) b n f := h.of_block (Below.heap_alloc w o b h.lt)
theorem MapIs.drew (h : MapIs F w b n f) : MapIs F w.drew b n f := h
theorem MapIs.grown {row : Option Nat} (h : MapIs F w b n f) (hg : w.grownBy w' row) (hne : some b ≠ row) : MapIs F w' b n f := h.of_block (hg.block b h.lt hne)
theorem MapIs.setCell (h : MapIs F w b n f) {a : Addr} (ha : b ≠ a.block) (u : Value) : MapIs F (w.setCell a u) b n f := h.of_block (Below.heap_setCell w a u b ha)

theorem MapIs.made (w : World) : MapIs F (w.alloc (.map #[] 0)) w.heap.size 0 (fun _ => 0) :=
  ⟨#[], 0, (MapKept.heap_alloc w _).1, Nat.le_refl _, by simp, by simp, by simp, by simp, fun _ _ _ => rfl⟩

/-- 'm[k]', without ok. -/
theorem MapIs.look (h : MapIs F w b n f) (K : Keyed P k) {t e : TypeId} (ht : P.underlying t = some (.map k e)) (hz : ∀ u : World, (zeroValue e).run P u = .ok (.int .i64 0) u) (a : α) (ha : F.ok a) :
    (Instr.lookup t (.map (some b)) (F.enc a) false).run P w = .ok (.int .i64 (f a)) w := by
  obtain ⟨es, clock, hb, _, _, _, _, h4, h5⟩ := h
  obtain ⟨l, hl⟩ := F.key a ha
  rcases K.find w hl es.toList (fun x hx => by obtain ⟨c, hc, hk, _⟩ := h4 x hx; rw [hk]; exact F.key c hc) with ⟨h1, h2⟩ | ⟨j, e0, h1, h2, h3⟩
  · rw [h5 a ha h2]
    simp [Instr.lookup, run_underlying ht, MapKept.run_getObj_map hb, K.check w _ hl, h1, hz, Result.andThen]
  · obtain ⟨c, hc, hk, hv⟩ := h4 e0 (List.mem_of_getElem? h2)
    obtain rfl := F.inj c a hc ha (hk.symm.trans h3)
    rw [hv] at h1
    simp [Instr.lookup, run_underlying ht, MapKept.run_getObj_map hb, K.check w _ hl, h1, Result.andThen]

theorem setBlock_same (h : b < w.heap.size) (o : Obj) : (setBlock w b o).heap[b]? = some o := by
  simp [setBlock, h]

theorem grownBy_setBlock (w : World) (b : Nat) (o : Obj) : w.grownBy (setBlock w b o) (some b) :=
  ⟨rfl, rfl, rfl, by simp [setBlock], fun i _ hi => by
    have hne : b ≠ i := fun e => hi (by rw [e])
    simp [setBlock, hne]⟩

/-- one key's answer turned -/
noncomputable def upd (f : α → Int) (a : α) (v : Int) : α → Int := fun c => open Classical in if c = a then v else f c
theorem upd_same (f : α → Int) (a : α) (v : Int) : upd f a v a = v := by simp [upd]
theorem upd_other (f : α → Int) {a c : α} (v : Int) (h : c ≠ a) : upd f a v c = f c := by simp [upd, h]

/-- 'm[k] op= v': an entry is found or made; what is stored into it then is the key's new answer. -/
theorem MapIs.entry (h : MapIs F w b n f) (K : Keyed P k) {t e : TypeId} (ht : P.underlying t = some (.map k e)) (hz : ∀ u : World, (zeroValue e).run P u = .ok (.int .i64 0) u) (a : α) (ha : F.ok a) :
    ∃ (st : Nat) (w1 : World), (Instr.mapEntry t (.map (some b)) (F.enc a)).run P w = .ok (.tuple #[.int .i64 (f a), .int .i64 st]) w1 ∧ MapIs F w1 b (n + 1) f ∧ w.grownBy w1 (some b) ∧
      ∀ (w2 : World) (v : Int), w2.heap[b]? = w1.heap[b]? → ∃ w3, (Instr.entryStore t (.map (some b)) (.int .i64 st) (.int .i64 v)).run P w2 = .ok () w3 ∧ MapIs F w3 b (n + 1) (upd f a v) ∧ w2.grownBy w3 (some b) ∧
        ∃ w4, (Instr.mapUpdate t (.map (some b)) (F.enc a) (.int .i64 v)).run P w = .ok () w4 ∧ MapIs F w4 b (n + 1) (upd f a v) ∧ w.grownBy w4 (some b) := by
  have hlt := h.lt
  obtain ⟨es, clock, hb, hs, s1, s2, s3, h4, h5⟩ := h
  obtain ⟨l, hl⟩ := F.key a ha
  rcases K.find w hl es.toList (fun x hx => by obtain ⟨c, hc, hk, _⟩ := h4 x hx; rw [hk]; exact F.key c hc) with ⟨h1, h2⟩ | ⟨j, e0, h1, h2, h3⟩
  · have hfa := h5 a ha h2
    have hborn : ((es.push ⟨F.enc a, .int .i64 0, clock⟩).toList.map (·.born)).Nodup := by
      simp only [Array.toList_push, List.map_append, List.map_cons, List.map_nil]
      refine List.nodup_append.2 ⟨s2, by simp, fun p hp q hq e1 => ?_⟩
      simp only [List.mem_singleton] at hq
      obtain ⟨x, hx, rfl⟩ := List.mem_map.1 hp
      have := s1 x hx
      omega
    have hrow : ∀ (v : Int) (g : α → Int), g a = v → (∀ c, F.ok c → c ≠ a → g c = f c) → ∀ (w2 : World), w2.heap[b]? = some (.map (es.push ⟨F.enc a, .int .i64 v, clock⟩) (clock + 1)) → MapIs F w2 b (n + 1) g := by
      intro v g hg hgo w2 hw2
      refine ⟨_, _, hw2, by simp; omega, fun x hx => ?_, ?_, fun i1 i2 x y hx hy hk => ?_, fun x hx => ?_, fun c hc hx => ?_⟩
      · simp only [Array.toList_push, List.mem_append, List.mem_singleton] at hx
        rcases hx with hx | rfl
        · have := s1 x hx; omega
        · simp
      · simpa using hborn
      · simp only [Array.toList_push] at hx hy
        rw [List.getElem?_append] at hx hy
        split at hx
        · split at hy
          · exact s3 i1 i2 x y hx hy hk
          · rename_i l2
            cases h9 : i2 - es.toList.length with
            | zero => rw [h9] at hy; simp at hy; subst hy; exact absurd hk (h2 x (List.mem_of_getElem? hx))
            | succ q => rw [h9] at hy; simp at hy
        · rename_i l1
          cases h8 : i1 - es.toList.length with
          | zero =>
            rw [h8] at hx; simp at hx; subst hx
            split at hy
            · exact absurd hk.symm (h2 y (List.mem_of_getElem? hy))
            · rename_i l2
              cases h9 : i2 - es.toList.length with
              | zero => omega
              | succ q => rw [h9] at hy; simp at hy
          | succ q => rw [h8] at hx; simp at hx
      · simp only [Array.toList_push, List.mem_append, List.mem_singleton] at hx
        rcases hx with hx | rfl
        · obtain ⟨c, hc, hk, hv⟩ := h4 x hx
          refine ⟨c, hc, hk, ?_⟩
          rw [hv, hgo c hc (fun e1 => h2 x hx (by rw [hk, e1]))]
        · exact ⟨a, ha, rfl, by rw [hg]⟩
      · simp only [Array.toList_push, List.mem_append, List.mem_singleton] at hx
        have hne : c ≠ a := fun e1 => hx _ (Or.inr rfl) (by rw [e1])
        rw [hgo c hc hne]
        exact h5 c hc fun x hx1 => hx x (Or.inl hx1)
    refine ⟨clock, setBlock w b (.map (es.push ⟨F.enc a, .int .i64 0, clock⟩) (clock + 1)), ?_, hrow 0 f hfa (fun _ _ _ => rfl) _ (setBlock_same hlt _), grownBy_setBlock _ _ _, fun w2 v hw2 => ?_⟩
    · rw [hfa]
      simp [Instr.mapEntry, run_underlying ht, MapKept.run_getObj_map hb, K.check w false hl, h1, hz, MapKept.run_setObj_map _ hb, Result.andThen, setBlock, goInt]
    · rw [setBlock_same hlt] at hw2
      have hlt2 : b < w2.heap.size := (Array.getElem?_eq_some_iff.1 hw2).1
      have hidx : (es.push ⟨F.enc a, .int .i64 0, clock⟩).findIdx? (fun e => ((e.born : Nat) : Int) == ((clock : Nat) : Int)) = some es.size := by
        rw [WideElems.findIdx_arr]
        exact WideElems.findIdx_born (l := (es.push ⟨F.enc a, .int .i64 0, clock⟩).toList) (j := es.size) (e0 := ⟨F.enc a, .int .i64 0, clock⟩) hborn (by simp)
      have hmod : (es.push ⟨F.enc a, .int .i64 0, clock⟩).modify es.size (fun e => { e with val := .int .i64 v }) = es.push ⟨F.enc a, .int .i64 v, clock⟩ := by
        apply Array.ext'
        rw [Array.toList_modify, Array.toList_push, Array.toList_push, ← Array.length_toList, WideElems.modify_last]
      refine ⟨setBlock w2 b (.map (es.push ⟨F.enc a, .int .i64 v, clock⟩) (clock + 1)), ?_, hrow v _ (upd_same f a v) (fun c _ hne => upd_other f v hne) _ (setBlock_same hlt2 _), grownBy_setBlock _ _ _,
        setBlock w b (.map (es.push ⟨F.enc a, .int .i64 v, clock⟩) (clock + 1)), ?_, hrow v _ (upd_same f a v) (fun c _ hne => upd_other f v hne) _ (setBlock_same hlt _), grownBy_setBlock _ _ _⟩
      · simp [Instr.entryStore, MapKept.run_getObj_map hw2, asInt, asIntOf, hidx, hmod, MapKept.run_setObj_map _ hw2, Result.andThen, setBlock]
      · simp [Instr.mapUpdate, run_underlying ht, MapKept.run_getObj_map hb, K.check w false hl, h1, MapKept.run_setObj_map _ hb, Result.andThen, setBlock]
  · obtain ⟨c, hc, hk, hv⟩ := h4 e0 (List.mem_of_getElem? h2)
    obtain rfl := F.inj c a hc ha (hk.symm.trans h3)
    have hj : es[j]? = some e0 := by simpa using h2
    have hjl : j < es.toList.length := (List.getElem?_eq_some_iff.1 h2).1
    have hsame : es.modify j (fun e => { e with key := F.enc c }) = es := by
      apply Array.ext'
      rw [Array.toList_modify, modify_eq_set _ _ _ _ h2]
      have : ({ e0 with key := F.enc c } : MapEntry) = e0 := by rw [← h3]
      rw [this]
      exact WideElems.set_self _ _ _ h2
    refine ⟨e0.born, setBlock w b (.map es clock), ?_, ⟨es, clock, setBlock_same hlt _, by omega, s1, s2, s3, h4, h5⟩, grownBy_setBlock _ _ _, fun w2 v hw2 => ?_⟩
    · rw [hv] at h1
      simp [Instr.mapEntry, run_underlying ht, MapKept.run_getObj_map hb, K.check w false hl, h1, hj, h3, K.stays w hl, hsame, MapKept.run_setObj_map _ hb, Result.andThen, setBlock, goInt]
    · rw [setBlock_same hlt] at hw2
      have hlt2 : b < w2.heap.size := (Array.getElem?_eq_some_iff.1 hw2).1
      have hidx : es.findIdx? (fun e => ((e.born : Nat) : Int) == ((e0.born : Nat) : Int)) = some j := by
        rw [WideElems.findIdx_arr]
        exact WideElems.findIdx_born s2 h2
      have hset : (es.modify j (fun e => { e with val := .int .i64 v })).toList = es.toList.set j { e0 with val := .int .i64 v } := by
        rw [Array.toList_modify, modify_eq_set _ _ _ _ h2]
      have hget : ∀ i x, (es.toList.set j { e0 with val := .int .i64 v })[i]? = some x → ∃ y, es.toList[i]? = some y ∧ x.key = y.key ∧ x.born = y.born ∧ (i = j → x.val = .int .i64 v) ∧ (i ≠ j → x = y) := by
        intro i x hx
        rw [List.getElem?_set] at hx
        by_cases e1 : j = i
        · subst e1
          rw [if_pos rfl, if_pos hjl] at hx
          cases hx
          exact ⟨e0, h2, rfl, rfl, fun _ => rfl, fun h => absurd rfl h⟩
        · rw [if_neg e1] at hx
          exact ⟨x, hx, rfl, rfl, fun h => absurd h.symm e1, fun _ => rfl⟩
      have hall : ∀ w5 : World, w5.heap[b]? = some (.map (es.modify j (fun e => { e with val := .int .i64 v })) clock) → MapIs F w5 b (n + 1) (upd f c v) := by
        intro w5 hw5
        refine ⟨_, _, hw5, by simp; omega, fun x hx => ?_, ?_, fun i1 i2 x y hx hy hk => ?_, fun x hx => ?_, fun d hd hx => ?_⟩
        · rw [hset] at hx
          obtain ⟨i, hi⟩ := List.getElem?_of_mem hx
          obtain ⟨y, hy, _, e2, _⟩ := hget i x hi
          rw [e2]
          exact s1 y (List.mem_of_getElem? hy)
        · rw [hset, List.map_set]
          have : (es.toList.map (·.born)).set j e0.born = es.toList.map (·.born) := WideElems.set_self _ _ _ (by rw [List.getElem?_map, h2]; rfl)
          rw [show ({ e0 with val := Value.int .i64 v } : MapEntry).born = e0.born from rfl, this]
          exact s2
        · rw [hset] at hx hy
          obtain ⟨x', hx', e1, _⟩ := hget i1 x hx
          obtain ⟨y', hy', e2, _⟩ := hget i2 y hy
          exact s3 i1 i2 x' y' hx' hy' (by rw [← e1, ← e2]; exact hk)
        · rw [hset] at hx
          obtain ⟨i, hi⟩ := List.getElem?_of_mem hx
          obtain ⟨y, hy, e1, _, e3, e4⟩ := hget i x hi
          by_cases hij : i = j
          · subst hij
            obtain rfl : y = e0 := by rw [h2] at hy; exact (Option.some.inj hy).symm
            exact ⟨c, hc, by rw [e1, h3], by rw [e3 rfl, upd_same]⟩
          · obtain rfl := e4 hij
            obtain ⟨d, hd, hk', hv'⟩ := h4 x (List.mem_of_getElem? hy)
            refine ⟨d, hd, hk', ?_⟩
            rw [hv', upd_other f v (fun e5 => hij (s3 i j x e0 hy h2 (by rw [hk', h3, e5])))]
        · have hne : d ≠ c := fun e5 => by
            have : (es.modify j (fun e => { e with val := .int .i64 v })).toList[j]? = some { e0 with val := .int .i64 v } := by rw [hset, List.getElem?_set, if_pos rfl, if_pos hjl]
            exact hx _ (List.mem_of_getElem? this) (by rw [e5]; exact h3)
          rw [upd_other f v hne]
          refine h5 d hd fun x hx1 e6 => ?_
          obtain ⟨i, hi⟩ := List.getElem?_of_mem hx1
          by_cases hij : i = j
          · subst hij
            obtain rfl : x = e0 := by rw [h2] at hi; exact (Option.some.inj hi).symm
            exact hne (F.inj d c hd hc (e6.symm.trans h3))
          · have : (es.modify j (fun e => { e with val := .int .i64 v })).toList[i]? = some x := by rw [hset, List.getElem?_set, if_neg (fun h => hij h.symm)]; exact hi
            exact hx x (List.mem_of_getElem? this) e6
      refine ⟨setBlock w2 b (.map (es.modify j (fun e => { e with val := .int .i64 v })) clock), ?_, hall _ (setBlock_same hlt2 _), grownBy_setBlock _ _ _,
        setBlock w b (.map (es.modify j (fun e => { e with val := .int .i64 v })) clock), ?_, hall _ (setBlock_same hlt _), grownBy_setBlock _ _ _⟩
      · simp [Instr.entryStore, MapKept.run_getObj_map hw2, asInt, asIntOf, hidx, MapKept.run_setObj_map _ hw2, Result.andThen, setBlock]
      · have hmod : es.modify j (fun e => { e with val := .int .i64 v }) = es.modify j (fun e' => { e' with key := F.enc c, val := .int .i64 v }) := by
          apply Array.ext'
          rw [Array.toList_modify, Array.toList_modify, modify_eq_set _ _ _ _ h2, modify_eq_set _ _ _ _ h2, ← h3]
        rw [hv] at h1
        simp [Instr.mapUpdate, run_underlying ht, MapKept.run_getObj_map hb, K.check w false hl, h1, hj, h3, K.stays w hl, hmod, MapKept.run_setObj_map _ hb, Result.andThen, setBlock]

end
end Go.Proofs.Ytjknkmidcmiefaa
