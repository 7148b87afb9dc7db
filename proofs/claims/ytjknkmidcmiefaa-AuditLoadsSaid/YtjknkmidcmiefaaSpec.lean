/- What a look at one event comes to, as plain Lean; the reference's facts follow the book. -/
import Derived.Test.YtjknkmidcmiefaaRef
import Derived.Test.YtjknkmidcmiefaaSee2
namespace Go.Proofs.Ytjknkmidcmiefaa
open Go.RowKit

instance (k : Bk) (f : Int) : Decidable (k.cur f) := by unfold Bk.cur; infer_instance

def Bk.see (k : Bk) (e : Ev) : Int :=
  if e.kind < 1 ∨ 5 < e.kind then 9
  else if e.who < 1 ∨ k.workers < e.who then 3
  else if 0 < k.over e.who then 15
  else if e.kind = 1 then (if k.op = true ∨ ¬ e.a = k.frames then 6 else 0)
  else if e.kind = 2 then (if ¬ k.cur e.a then 6 else if e.b < 0 ∨ k.tiles ≤ e.b then 10 else if 0 < k.drawn (e.a, e.b) then 4 else 0)
  else if e.kind = 3 then (if e.a < 0 ∨ k.workers ≤ e.a ∨ e.a = e.who - 1 then 3 else if e.b < 0 ∨ ¬ (0 < k.frames ∧ e.b / k.tiles = k.frames - 1) then 6 else 0)
  else if e.kind = 4 then (if ¬ k.cur e.a then 6 else 0)
  else 0

noncomputable def Bk.next (k : Bk) (e : Ev) : Bk :=
  if e.kind = 1 then { k with frames := k.frames + 1, op := true }
  else if e.kind = 2 then { k with drawn := upd k.drawn (e.a, e.b) 1 }
  else if e.kind = 3 then k
  else if e.kind = 4 then { k with op := false }
  else { k with over := upd k.over e.who 1 }

structure EvOk (e : Ev) : Prop where
  who : I64 e.who
  kind : I64 e.kind
  a : I64 e.a
  b : I64 e.b

structure BkOk (k : Bk) (n : Nat) : Prop where
  tiles : 1 ≤ k.tiles
  lo : 0 ≤ k.frames
  hi : k.frames ≤ n
  over : ∀ x, 0 ≤ k.over x
  drawn : ∀ p, 0 ≤ k.drawn p

theorem upd_nonneg {α : Type} (f : α → Int) (a : α) (h : ∀ x, 0 ≤ f x) (x : α) : 0 ≤ upd f a 1 x := by
  unfold upd
  split <;> first | omega | exact h x

theorem BkOk.next {k : Bk} {n : Nat} (h : BkOk k n) (e : Ev) : BkOk (k.next e) (n + 1) := by
  obtain ⟨h1, h2, h3, h4, h5⟩ := h
  unfold Bk.next
  repeat' split
  · exact ⟨h1, by show 0 ≤ k.frames + 1; omega, by show k.frames + 1 ≤ _; omega, h4, h5⟩
  · exact ⟨h1, h2, by show k.frames ≤ _; omega, h4, upd_nonneg _ _ h5⟩
  · exact ⟨h1, h2, by omega, h4, h5⟩
  · exact ⟨h1, h2, by show k.frames ≤ _; omega, h4, h5⟩
  · exact ⟨h1, h2, by show k.frames ≤ _; omega, upd_nonneg _ _ h4, h5⟩

set_option maxHeartbeats 1000000 in
/-- (*book).see: the code, and, where it is 0, the book that follows. -/
theorem see_calls (b dm om n B : Nat) (k : Bk) (e : Ev) (w : World) (hb : Book w b dm om n k) (hk : BkOk k n) (he : EvOk e) (hn : n ≤ 1000) (hBb : B ≤ b) (hBd : B ≤ dm) (hBo : B ≤ om) (hBw : B ≤ w.heap.size) :
    Calls Try.prog 11 #[.pointer (some ⟨b, 0, none⟩), evAgg e] w fun r w' => r = .returned (.int .i64 (k.see e)) ∧ (k.see e = 0 → Book w' b dm om (n + 1) (k.next e)) ∧ Below B w w' := by
  have hf : k.frames ≤ 1000 := by have := hk.hi; omega
  have bad : ∀ c : Int, c ≠ 0 → k.see e = c → (Calls Try.prog 11 #[.pointer (some ⟨b, 0, none⟩), evAgg e] w fun r w' => r = .returned (.int .i64 c) ∧ Below w.heap.size w w') →
      Calls Try.prog 11 #[.pointer (some ⟨b, 0, none⟩), evAgg e] w fun r w' => r = .returned (.int .i64 (k.see e)) ∧ (k.see e = 0 → Book w' b dm om (n + 1) (k.next e)) ∧ Below B w w' := by
    intro c hc hs h
    exact h.mono fun r w' ⟨h1, h2⟩ => ⟨by rw [hs]; exact h1, fun h0 => absurd (hs.symm.trans h0) hc, h2.mono hBw⟩
  by_cases h1 : e.kind < 1 ∨ 5 < e.kind
  · exact bad 9 (by omega) (by unfold Bk.see; rw [if_pos h1]) (see_kind b e w h1)
  by_cases h2 : e.who < 1 ∨ k.workers < e.who
  · exact bad 3 (by omega) (by unfold Bk.see; rw [if_neg h1, if_pos h2]) (see_who b dm om k e w hb.cells (by omega) (by omega) h2)
  by_cases h3 : 0 < k.over e.who
  · exact bad 15 (by omega) (by unfold Bk.see; rw [if_neg h1, if_neg h2, if_pos h3]) (see_over b dm om n k e w hb (by omega) (by omega) (by omega) (by omega) he.who h3)
  have ho : k.over e.who = 0 := by have := hk.over e.who; omega
  have hw1 : 1 ≤ e.who := by omega
  have hw2 : e.who ≤ k.workers := by omega
  by_cases k1 : e.kind = 1
  · have hs : k.see e = if k.op = true ∨ ¬ e.a = k.frames then 6 else 0 := by unfold Bk.see; rw [if_neg h1, if_neg h2, if_neg h3, if_pos k1]
    by_cases h4 : k.op = true ∨ ¬ e.a = k.frames
    · exact bad 6 (by omega) (by rw [hs, if_pos h4]) (see_claim_no b dm om n k e w hb hw1 hw2 he.who ho k1 h4)
    · rw [if_neg h4] at hs
      refine (see_claim_ok b dm om n k e w hb hw1 hw2 he.who ho B hBb hBw k1 (by cases h : k.op <;> simp [h] at h4 ⊢) (by by_cases h : e.a = k.frames; exact h; exact absurd (Or.inr h) h4) hk.lo hf).mono fun r w' ⟨h5, h6, h7⟩ => ⟨by rw [hs]; exact h5, fun _ => ?_, h7⟩
      unfold Bk.next; rw [if_pos k1]; exact h6.mono (by omega)
  by_cases k2 : e.kind = 2
  · have hs : k.see e = if ¬ k.cur e.a then 6 else if e.b < 0 ∨ k.tiles ≤ e.b then 10 else if 0 < k.drawn (e.a, e.b) then 4 else 0 := by unfold Bk.see; rw [if_neg h1, if_neg h2, if_neg h3, if_neg k1, if_pos k2]
    have go : ∀ (c : Int) (R : World → Prop), k.see e = c → (∀ W, Book W b dm om n k → Calls Try.prog 13 #[.pointer (some ⟨b, 0, none⟩), evAgg e] W fun r w' => r = .returned (.int .i64 c) ∧ R w' ∧ Below B W w') → (c = 0 → ∀ w', R w' → Book w' b dm om (n + 1) (k.next e)) →
        Calls Try.prog 11 #[.pointer (some ⟨b, 0, none⟩), evAgg e] w fun r w' => r = .returned (.int .i64 (k.see e)) ∧ (k.see e = 0 → Book w' b dm om (n + 1) (k.next e)) ∧ Below B w w' := by
      intro c R hc hcall hR
      exact (see_other b dm om n k e w hb hw1 hw2 he.who ho B hBw c 13 (Or.inl ⟨rfl, k2⟩) R hcall).mono fun r w' ⟨h5, h6, h7⟩ => ⟨by rw [hc]; exact h5, fun h0 => hR (hc.symm.trans h0) w' h6, h7⟩
    have no : ∀ c : Int, c ≠ 0 → k.see e = c → (∀ W, Book W b dm om n k → Calls Try.prog 13 #[.pointer (some ⟨b, 0, none⟩), evAgg e] W fun r w' => r = .returned (.int .i64 c) ∧ Below W.heap.size W w') →
        Calls Try.prog 11 #[.pointer (some ⟨b, 0, none⟩), evAgg e] w fun r w' => r = .returned (.int .i64 (k.see e)) ∧ (k.see e = 0 → Book w' b dm om (n + 1) (k.next e)) ∧ Below B w w' :=
      fun c hc0 hc h => go c (fun _ => True) hc (fun W hW => (h W hW).mono fun r w' ⟨h5, h6⟩ => ⟨h5, trivial, h6.mono (by have := hW.cells.lt; omega)⟩) (fun h0 => absurd h0 hc0)
    by_cases h4 : k.cur e.a
    · rw [if_neg (fun h => h h4)] at hs
      by_cases h5 : e.b < 0 ∨ k.tiles ≤ e.b
      · exact no 10 (by omega) (by rw [hs, if_pos h5]) (fun W hW => draw_index b dm om k e W hW.cells hf h4 h5)
      rw [if_neg h5] at hs
      by_cases h6 : 0 < k.drawn (e.a, e.b)
      · exact no 4 (by omega) (by rw [hs, if_pos h6]) (fun W hW => draw_big b dm om n k e W hW.cells hW.drawn hf h4 (by omega) (by omega) he.a he.b h6)
      rw [if_neg h6] at hs
      have hd : k.drawn (e.a, e.b) = 0 := by have := hk.drawn (e.a, e.b); omega
      refine go 0 (fun w' => Book w' b dm om (n + 1) { k with drawn := upd k.drawn (e.a, e.b) 1 }) hs (fun W hW => (draw_ok b dm om n k e W hW.cells hW.drawn hf h4 (by omega) (by omega) he.a he.b hd).mono fun r w' ⟨h7, h8, h9⟩ => ⟨h7, hW.drew1 h8 h9, ?_⟩) (fun _ w' hR => ?_)
      · have := hW.drawn.lt
        exact (Below.refl B W).grown h9 (by omega) (fun k0 e0 => by cases e0; exact hBd)
      · unfold Bk.next; rw [if_neg k1, if_pos k2]; exact hR
    · rw [if_pos h4] at hs
      exact no 6 (by omega) hs (fun W hW => draw_form b dm om k e W hW.cells hk.lo hf h4)
  by_cases k3 : e.kind = 3
  · have hs : k.see e = if e.a < 0 ∨ k.workers ≤ e.a ∨ e.a = e.who - 1 then 3 else if e.b < 0 ∨ ¬ (0 < k.frames ∧ e.b / k.tiles = k.frames - 1) then 6 else 0 := by
      unfold Bk.see; rw [if_neg h1, if_neg h2, if_neg h3, if_neg k1, if_neg k2, if_pos k3]
    have go : ∀ (c : Int), k.see e = c → (∀ W, Book W b dm om n k → Calls Try.prog 14 #[.pointer (some ⟨b, 0, none⟩), evAgg e] W fun r w' => r = .returned (.int .i64 c) ∧ Below W.heap.size W w') →
        Calls Try.prog 11 #[.pointer (some ⟨b, 0, none⟩), evAgg e] w fun r w' => r = .returned (.int .i64 (k.see e)) ∧ (k.see e = 0 → Book w' b dm om (n + 1) (k.next e)) ∧ Below B w w' := by
      intro c hc h
      refine (see_other b dm om n k e w hb hw1 hw2 he.who ho B hBw c 14 (Or.inr ⟨rfl, k3⟩) (fun w' => Book w' b dm om n k) (fun W hW => (h W hW).mono fun r w' ⟨h5, h6⟩ => ⟨h5, hW.of_grown h6, h6.mono (by have := hW.cells.lt; omega)⟩)).mono fun r w' ⟨h5, h6, h7⟩ => ⟨by rw [hc]; exact h5, fun _ => ?_, h7⟩
      unfold Bk.next; rw [if_neg k1, if_neg k2, if_pos k3]; exact h6.mono (by omega)
    have hwm := he.who.2
    by_cases h4 : e.a < 0 ∨ k.workers ≤ e.a ∨ e.a = e.who - 1
    · exact go 3 (by rw [hs, if_pos h4]) (fun W hW => steal_range b dm om k e W hW.cells hw1 hwm h4)
    rw [if_neg h4] at hs
    by_cases h5 : e.b < 0 ∨ ¬ (0 < k.frames ∧ e.b / k.tiles = k.frames - 1)
    · exact go 6 (by rw [hs, if_pos h5]) (fun W hW => steal_form b dm om k e W hW.cells hw1 hwm (by omega) (by omega) (fun h => h4 (Or.inr (Or.inr h))) hk.tiles hk.lo hf he.b h5)
    rw [if_neg h5] at hs
    have h6 : 0 < k.frames ∧ e.b / k.tiles = k.frames - 1 := by
      by_cases h : 0 < k.frames ∧ e.b / k.tiles = k.frames - 1
      · exact h
      · exact absurd (Or.inr h) h5
    exact go 0 hs (fun W hW => steal_ok b dm om k e W hW.cells hw1 hwm (by omega) (by omega) (fun h => h4 (Or.inr (Or.inr h))) hk.tiles hf he.b (by omega) h6.1 h6.2)
  by_cases k4 : e.kind = 4
  · have hs : k.see e = if ¬ k.cur e.a then 6 else 0 := by unfold Bk.see; rw [if_neg h1, if_neg h2, if_neg h3, if_neg k1, if_neg k2, if_neg k3, if_pos k4]
    by_cases h4 : k.cur e.a
    · rw [if_neg (fun h => h h4)] at hs
      refine (see_retire_ok b dm om n k e w hb hw1 hw2 he.who ho B hBb hBw k4 hf h4).mono fun r w' ⟨h5, h6, h7⟩ => ⟨by rw [hs]; exact h5, fun _ => ?_, h7⟩
      unfold Bk.next; rw [if_neg k1, if_neg k2, if_neg k3, if_pos k4]; exact h6.mono (by omega)
    · rw [if_pos h4] at hs
      exact bad 6 (by omega) hs (see_retire_no b dm om n k e w hb hw1 hw2 he.who ho k4 hk.lo hf h4)
  · have hs : k.see e = 0 := by unfold Bk.see; rw [if_neg h1, if_neg h2, if_neg h3, if_neg k1, if_neg k2, if_neg k3, if_neg k4]
    refine (see_end b dm om n k e w hb hw1 hw2 he.who ho B hBo hBw (by omega)).mono fun r w' ⟨h5, h6, h7⟩ => ⟨by rw [hs]; exact h5, fun _ => ?_, h7⟩
    unfold Bk.next; rw [if_neg k1, if_neg k2, if_neg k3, if_neg k4]; exact h6

/-! ### the reference's facts, and the book -/

/-- what the book knows of the events so far -/
structure Knows (k : Bk) (l : List Ev) : Prop where
  last : lastOf l = k.frames - 1
  op : openOf l = k.op
  over : ∀ x, overOf x l = decide (0 < k.over x)
  drawn : ∀ x : Ev, x.kind = 2 → hasOf x l = decide (0 < k.drawn (x.a, x.b))

theorem Knows.next {k : Bk} {l : List Ev} (h : Knows k l) (e : Ev) (hs : k.see e = 0) : Knows (k.next e) (l ++ [e]) := by
  obtain ⟨h1, h2, h3, h4⟩ := h
  have hk1 : ¬ (e.kind < 1 ∨ 5 < e.kind) := fun h => by unfold Bk.see at hs; rw [if_pos h] at hs; omega
  unfold Bk.see at hs
  rw [if_neg hk1] at hs
  have hk2 : ¬ (e.who < 1 ∨ k.workers < e.who) := fun h => by rw [if_pos h] at hs; omega
  rw [if_neg hk2] at hs
  have hk3 : ¬ 0 < k.over e.who := fun h => by rw [if_pos h] at hs; omega
  rw [if_neg hk3] at hs
  refine ⟨?_, ?_, fun x => ?_, fun x hx => ?_⟩
  · rw [lastOf_snoc, h1]
    unfold lastStep Bk.next
    by_cases e1 : e.kind = 1
    · rw [if_pos e1, if_pos e1]
      rw [if_pos e1] at hs
      by_cases h5 : k.op = true ∨ ¬ e.a = k.frames
      · rw [if_pos h5] at hs; omega
      · show e.a = k.frames + 1 - 1
        by_cases h6 : e.a = k.frames
        · omega
        · exact absurd (Or.inr h6) h5
    · rw [if_neg e1, if_neg e1]
      repeat' split
      all_goals rfl
  · rw [openOf_snoc, h2]
    unfold openStep Bk.next
    by_cases e1 : e.kind = 1
    · rw [if_neg (by omega), if_pos e1, if_pos e1]
    · rw [if_neg e1, if_neg e1]
      by_cases e2 : e.kind = 2
      · rw [if_neg (by omega), if_pos e2]
      · rw [if_neg e2]
        by_cases e3 : e.kind = 3
        · rw [if_neg (by omega), if_pos e3]
        · rw [if_neg e3]
          by_cases e4 : e.kind = 4
          · rw [if_pos e4, if_pos e4]
          · rw [if_neg e4, if_neg e4]
  · rw [overOf_snoc, h3]
    by_cases e5 : e.kind = 5
    · have hne : (k.next e).over = upd k.over e.who 1 := by unfold Bk.next; rw [if_neg (by omega), if_neg (by omega), if_neg (by omega), if_neg (by omega)]
      rw [hne, e5]
      by_cases hx : e.who = x
      · subst hx
        rw [upd_same]
        simp
      · rw [upd_other _ _ (fun h => hx h.symm)]
        simp [hx]
    · have hne : (k.next e).over = k.over := by
        unfold Bk.next
        repeat' split
        all_goals first | rfl | omega
      rw [hne]
      simp [e5]
  · rw [hasOf_snoc, h4 x hx]
    by_cases e2 : e.kind = 2
    · have hne : (k.next e).drawn = upd k.drawn (e.a, e.b) 1 := by unfold Bk.next; rw [if_neg (by omega), if_pos e2]
      rw [hne, e2, hx]
      by_cases hx2 : e.a = x.a ∧ e.b = x.b
      · rw [← hx2.1, ← hx2.2, upd_same]
        simp
      · rw [upd_other _ _ (fun h => hx2 (by injection h with ha hb; exact ⟨ha.symm, hb.symm⟩))]
        by_cases ha : e.a = x.a
        · have hb : ¬ e.b = x.b := fun hb => hx2 ⟨ha, hb⟩
          simp [hb]
        · simp [ha]
    · have hne : (k.next e).drawn = k.drawn := by
        unfold Bk.next
        repeat' split
        all_goals first | rfl | omega
      rw [hne, hx]
      simp [e2]

end Go.Proofs.Ytjknkmidcmiefaa
