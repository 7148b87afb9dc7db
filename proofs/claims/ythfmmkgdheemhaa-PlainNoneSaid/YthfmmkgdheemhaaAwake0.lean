import Derived.Test.YthfmmkgdheemhaaRead
namespace Go.Proofs.Ythfmmkgdheemhaa
open Go Go.RowKit
attribute [local go_sem] grow_cell grow_frozen grow_setCell

theorem ownsRow_ints {W : World} {base : Nat} {A : Option Addr} {n cap : Nat} {l : List Int} (h : W.ownsRow base 3 1 (.slice A n cap) l.length (l.map (Value.int .i64))) : IntsAt W A l := by
  intro i hi
  rcases h.2 with ⟨e, h0⟩ | ⟨g, cap', cur, e, hb, hg, hn, hc, hs, ht⟩
  · omega
  · injection e with e1 _ _
    subst e1
    refine ⟨g, 0, rfl, ?_⟩
    have hx : (cur.toList.take (l.length * 1))[i]? = some (.int .i64 l[i]) := by rw [ht]; simp [hi]
    rw [List.getElem?_take] at hx
    split at hx
    · rw [Nat.zero_add, cell_of_row W g i cur _ _ hg]
      simpa using hx
    · cases hx
theorem ownsRow_len {W : World} {base : Nat} {e : TypeId} {size : Nat} {v : Value} {k : Nat} {xs : List Value} (h : W.ownsRow base e size v k xs) : ∃ A cap, v = .slice A k cap := by
  rcases h.2 with ⟨e, h0⟩ | ⟨g, cap', cur, e, hb, hg, hn, hc, hs, ht⟩
  · subst h0; exact ⟨none, 0, e⟩
  · exact ⟨_, _, e⟩

def primA : Array Value := #[.int .i64 1, .int .i64 0, .int .i64 0, .int .i64 0, .int .i64 0, .int .i64 0, .int .i64 0, .int .i64 0, .int .i64 0, .int .i64 0, .int .i64 0, .int .i64 0, .int .i64 0, .int .i64 0, .int .i64 0, .int .i64 0, .int .i64 0, .int .i64 0, .int .i64 0, .int .i64 0, .int .i64 0, .int .i64 0, .int .i64 0, .int .i64 0, .int .i64 0, .int .i64 0, .int .i64 0, .int .i64 0, .int .i64 0, .int .i64 0, .int .i64 0, .int .i64 0, .int .i64 0, .int .i64 0, .int .i64 0, .int .i64 0, .int .i64 0, .int .i64 0, .int .i64 0, .int .i64 0, .int .i64 0, .int .i64 0, .int .i64 0, .int .i64 0, .int .i64 0, .int .i64 0, .int .i64 0, .int .i64 0, .int .i64 0, .int .i64 0, .int .i64 0, .int .i64 0, .int .i64 0, .int .i64 0, .int .i64 0, .int .i64 0, .int .i64 0, .int .i64 0, .bool false, .int .i64 0, .int .i64 0, .int .i64 0, .int .i64 0, .int .i64 0, .int .i64 0, .int .i64 0, .int .i64 0, .int .i64 0, .int .i64 0, .int .i64 0, .int .i64 0, .int .i64 0, .int .i64 0, .bool false, .int .i64 0, .int .i64 0, .slice none 0 0, .int .i64 1, .int .i64 0, .int .i64 0, .int .i64 0, .int .i64 9, .int .i64 0, .int .i64 0, .int .i64 1, .int .i64 0, .int .i64 2, .int .i64 1]
theorem primA_clr : Clr primA 1 ⟨0, 0, 0, 9, 0, 0⟩ 1 0 2 1 := ⟨rfl, rfl, rfl, rfl, rfl, rfl, rfl, rfl, rfl, rfl, rfl, rfl, rfl⟩
def clrPf (what : Int) (to : Px) (x0 y0 x1 y1 : Int) (p : Px) (x y : Nat) : Px := if hasPx x0 y0 x1 y1 x y then clr p what to else p
theorem pixel_clrPf (c : Array Value) (what : Int) (to : Px) (x0 y0 x1 y1 : Int) (hc : Clr c what to x0 y0 x1 y1) (hw : ¬ (what < 1 ∨ 7 < what)) (ht : to.ok = true) (p : Px) (x y : Nat) (hp : p.ok = true) (W : World) :
    Calls Try.prog 11 #[p.val, .agg c, .int .i64 x, .int .i64 y] W fun e w' => e = .returned (clrPf what to x0 y0 x1 y1 p x y).val ∧ Grew W w' := by
  have h := pixel_clr c what to x0 y0 x1 y1 hc p x y hw hp ht W
  unfold clrPf
  by_cases hh : hasPx x0 y0 x1 y1 x y = true
  · rw [if_pos hh] at h ⊢; exact h
  · rw [if_neg hh] at h ⊢; exact h

theorem doA (w : World) (pb B cap : Nat) (hP : Pic w pb B 2 1 cap (fun _ => ⟨0, 0, 0, 0, 65535, 0⟩)) :
    Calls Try.prog 6 #[.pointer (some ⟨pb, 0, none⟩), .agg primA] w fun r w' => r = .returned (.int .i64 0) ∧ Pic w' pb B 2 1 cap (fun i => clrPf 1 ⟨0, 0, 0, 9, 0, 0⟩ 1 0 2 1 ⟨0, 0, 0, 0, 65535, 0⟩ (i % 2) (i / 2)) ∧ w.grownBy w' (some B) :=
  do_ok w pb B 2 1 cap _ hP (by omega) (by omega) (by omega) primA rfl (fun W _ => (check_clr primA 1 ⟨0, 0, 0, 9, 0, 0⟩ 1 0 2 1 primA_clr W).mono fun e w' h => ⟨h.1, h.2⟩) (clrPf 1 ⟨0, 0, 0, 9, 0, 0⟩ 1 0 2 1) (fun _ _ => rfl)
    (fun W p x y _ hp _ _ => pixel_clrPf primA 1 ⟨0, 0, 0, 9, 0, 0⟩ 1 0 2 1 primA_clr (by omega) rfl p x y hp W)
end Go.Proofs.Ythfmmkgdheemhaa
