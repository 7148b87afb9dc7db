import Derived.Test.YtjknkmidcmiefaaDoorDigs4
import Derived.Test.YtjknkmidcmiefaaDoorShelf
import Derived.WalkSmall
import Derived.Lib.AtoiErrMem
namespace Go.Proofs.YtjknkmidcmiefaaDoor.Digs
open Go.RowKit Go.Proofs.YtjknkmidcmiefaaDoor.PN
open Go Go.Lib

def Vars (w : World) : Prop := (∃ tp p, w.var? Tryd.prog "strconv.ErrSyntax" = some #[.iface tp p]) ∧ (∃ tp p, w.var? Tryd.prog "strconv.ErrRange" = some #[.iface tp p]) ∧ 2 ≤ w.heap.size
theorem glob1 : Tryd.prog.globalNamed "strconv.ErrSyntax" = some 0 := by kernel_rfl
theorem glob2 : Tryd.prog.globalNamed "strconv.ErrRange" = some 1 := by kernel_rfl
theorem Vars.below {w w' : World} (h : Vars w) (hb : Below w.heap.size w w') : Vars w' := by
  obtain ⟨⟨a, b, h1⟩, ⟨c, d, h2⟩, h3⟩ := h
  exact ⟨⟨a, b, var?_below hb glob1 (by omega) h1⟩, ⟨c, d, var?_below hb glob2 (by omega) h2⟩, Nat.le_trans h3 hb.size⟩

def undecV (l : List UInt8) : Int := match undecS l with | some v => v | none => 0
def undecE (l : List UInt8) : Int := match undecS l with | some _ => 0 | none => 6

theorem ok_below {w w' : World} (h : w' = w ∨ ∃ t, w' = bytesWorld w 5 t) : Below w.heap.size w w' := by
  rcases h with rfl | ⟨t, rfl⟩
  · exact Below.refl _ _
  · exact bytesWorld_below _ _ _

theorem dec_calls (n : Int) (h : i64 n) (w : World) : Calls Tryd.prog 7 #[.int .i64 n] w fun e w' => e = .returned (.string (str (decS n))) ∧ Below w.heap.size w w' :=
  num_Dec.calls 300 n _ w (dec_f 300 n h (by omega))

set_option maxHeartbeats 2000000 in
theorem undec_ok (l : List UInt8) (hl : l.length ≤ 1000) (v : Int) (hv : parseIntB 64 l = .ok v) (w : World) :
    Calls Tryd.prog 6 #[.string (str l)] w fun e w' => e = .returned (.tuple #[.int .i64 (undecV l), .int .i64 (undecE l)]) ∧ Below w.heap.size w w' := by
  have hi := parse_range l v hv
  have hP := hid (Tryd.strconv_ParseInt_10_at64_ok (str l) (by rw [str_size]; omega) v hv)
  have hD := hid (dec_calls v hi)
  have hR : Hid (undecV l = (if decS v = l then v else 0) ∧ undecE l = (if decS v = l then 0 else 6)) := hid (by
    unfold undecV undecE undecS; rw [hv]; simp only
    by_cases h : decS v = l <;> simp [h])
  have hE := str_beq (decS v) l
  clear hv
  have walk : ∀ b : Bool, ((str (decS v)).toList == (str l).toList) = b → Calls Tryd.prog 6 #[.string (str l)] w fun e w' => e = .returned (.tuple #[.int .i64 (if b = true then v else 0), .int .i64 (if b = true then 0 else 6)]) ∧ Below w.heap.size w w' := by
    intro b hb
    clear hE hR
    cases b
    all_goals
      go_enter Tryd.func6, Tryd.ntmps6
      go_wp2_with (first
        | (go_at_call 15; refine (hP.out _).mono ?_; rintro r w1 ⟨rfl, hb1⟩; replace hb1 := ok_below hb1)
        | (go_at_call 7; refine (hD.out _).mono ?_; rintro r w2 ⟨rfl, hb2⟩))
      go_ret2
      exact ⟨rfl, hb1.trans (Below.mono hb2 hb1.size)⟩
  have := walk _ hE
  rw [hR.out.1, hR.out.2]
  simpa using this

set_option maxHeartbeats 2000000 in
theorem undec_bad (l : List UInt8) (hl : l.length ≤ 1000) (hu : undecS l = none) (hv : parseIntB 64 l = Lib.NumEnd.syntax ∨ parseIntB 64 l = .range) (w : World) (hV : Vars w) :
    Calls Tryd.prog 6 #[.string (str l)] w fun e w' => e = .returned (.tuple #[.int .i64 (undecV l), .int .i64 (undecE l)]) ∧ Below w.heap.size w w' := by
  have hP : ∃ q, Calls Tryd.prog 15 #[.string (str l), .int .i64 10, .int .i64 64] w fun e w' => ∃ N, e = .returned (.tuple #[.int .i64 q, .iface 61 (.pointer (some ⟨N, 0, none⟩))]) ∧ Below w.heap.size w w' := by
    obtain ⟨⟨tp, p, h1⟩, ⟨tq, q, h2⟩, _⟩ := hV
    rcases hv with hv | hv
    · exact ⟨_, (Tryd.strconv_ParseInt_10_at64_syntax_var (str l) (by rw [str_size]; omega) hv tp p w h1).mono fun r w' ⟨N, e, _, _, h⟩ => ⟨N, e, h⟩⟩
    · exact ⟨_, (Tryd.strconv_ParseInt_10_at64_range_var (str l) (by rw [str_size]; omega) hv tq q w h2).mono fun r w' ⟨N, e, _, _, h⟩ => ⟨N, e, h⟩⟩
  obtain ⟨q, hP⟩ := hP
  replace hP := hid hP
  have hR : Hid (undecV l = 0 ∧ undecE l = 6) := hid (by unfold undecV undecE; rw [hu]; exact ⟨rfl, rfl⟩)
  clear hv hu hV
  go_enter Tryd.func6, Tryd.ntmps6
  go_wp2_with (go_at_call 15; refine hP.out.mono ?_; rintro r w1 ⟨N, rfl, hb1⟩)
  go_ret2
  exact ⟨by rw [hR.out.1, hR.out.2]; rfl, hb1⟩

theorem undec_calls (l : List UInt8) (hl : l.length ≤ 1000) (w : World) (hV : Vars w) :
    Calls Tryd.prog 6 #[.string (str l)] w fun e w' => e = .returned (.tuple #[.int .i64 (undecV l), .int .i64 (undecE l)]) ∧ Below w.heap.size w w' := by
  rcases h : parseIntB 64 l with v | _ | _
  · exact undec_ok l hl v h w
  · exact undec_bad l hl (by unfold undecS; rw [h]) (.inl h) w hV
  · exact undec_bad l hl (by unfold undecS; rw [h]) (.inr h) w hV
end Go.Proofs.YtjknkmidcmiefaaDoor.Digs
