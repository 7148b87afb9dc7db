import Derived.Test.YthfmmkgdheemhaaNew2
namespace Go.Proofs.Ythfmmkgdheemhaa
open Go.RowKit
open Go

/-- A slice of ints in memory: its cells. -/
def IntsAt (V : World) (A : Option Addr) (l : List Int) : Prop := ∀ i (h : i < l.length), ∃ b o, A = some ⟨b, o, none⟩ ∧ V.cell? ⟨b, o + i, none⟩ = some (.int .i64 l[i])
theorem IntsAt.grew {V W : World} {A : Option Addr} {l : List Int} (h : IntsAt V A l) (hg : Grew V W) : IntsAt W A l := fun i hi => by
  obtain ⟨b, o, e, hc⟩ := h i hi
  exact ⟨b, o, e, hg.cell hc⟩
set_option maxHeartbeats 2000000 in
set_option maxRecDepth 100000 in
theorem alike_len (A B : Option Addr) (ca cb : Nat) (n m : Nat) (hne : n ≠ m) (w : World) :
    Calls Try.prog 13 #[.slice A n ca, .slice B m cb] w fun e w' => e = .returned (.bool false) ∧ w = w' := by
  have h1 : ((n : Int) != (m : Int)) = true := bne_iff_ne.2 (by omega)
  have h2 : (n != m) = true := bne_iff_ne.2 hne
  go_enter Try.func13, Try.ntmps13
  go_wp2
  go_ret
  exact ⟨rfl, rfl⟩

set_option maxHeartbeats 2000000 in
set_option maxRecDepth 100000 in
theorem alike_same (A B : Option Addr) (ca cb : Nat) (l l' : List Int) (hl : l.length = l'.length) (hm : l.length ≤ 4611686018427387904) (w : World) (hA : IntsAt w A l) (hB : IntsAt w B l') :
    Calls Try.prog 13 #[.slice A l.length ca, .slice B l'.length cb] w fun e w' => e = .returned (.bool (decide (l = l'))) ∧ Grew w w' := by
  have HA := Lib.hid hA
  have HB := Lib.hid hB
  have h1 : ((l.length : Int) != (l'.length : Int)) = false := by rw [hl]; simp
  clear hA hB
  go_enter Try.func13, Try.ntmps13
  go_wp2
  go_loopw [5] (fun v W => ∃ k : Nat, v = .int .i64 k ∧ Hid (k ≤ l.length) ∧ Hid (l.take k = l'.take k) ∧ Hid (Grew w W)) (fun v _ => l.length - (intAt v).toNat)
  case atStart => exact ⟨0, rfl, Lib.hid (Nat.zero_le _), Lib.hid rfl, Lib.hid (Grew.refl w)⟩
  case round =>
    obtain ⟨k, rfl, hk, hT, hG⟩ := hrel
    by_cases hlt : k < l.length
    · have hlt2 : k < l'.length := by omega
      obtain ⟨b, o, rfl, c⟩ := (HA.out.grew hG.out) k hlt
      obtain ⟨b', o', rfl, c'⟩ := (HB.out.grew hG.out) k hlt2
      have ew : wrap64 ((k : Int) + 1) = ((k + 1 : Nat) : Int) := by unfold wrap64; omega
      by_cases he : l[k] = l'[k]
      · have hb : (l[k] != l'[k]) = false := by simp [he]
        have HE := Lib.hid he
        clear he
        go_wp2
        go_quiet (fail)
        obtain ⟨q1, rfl⟩ : ∃ q, q = nq := ⟨_, rfl⟩
        go_wp2
        go_roundw
        case rel => exact ⟨k + 1, by go_num, Lib.hid hlt, Lib.hid (by rw [List.take_succ_eq_append_getElem hlt, List.take_succ_eq_append_getElem hlt2, hT.out, HE.out]), Lib.hid (hG.out.drewN q1)⟩
        case measure => simp [intAt]; omega
      · have hb : (l[k] != l'[k]) = true := bne_iff_ne.2 he
        have HE := Lib.hid he
        clear he
        go_wp2
        go_quiet (fail)
        obtain ⟨q1, rfl⟩ : ∃ q, q = nq := ⟨_, rfl⟩
        go_wp2
        go_ret
        refine ⟨ret_bool ?_, hG.out.drewN q1⟩
        have hne : l ≠ l' := by
          intro e
          subst e
          exact HE.out rfl
        simp [hne]
    · go_wp2
      go_ret
      refine ⟨ret_bool ?_, hG.out⟩
      have := hT.out
      rw [List.take_of_length_le (by omega), List.take_of_length_le (by omega)] at this
      simp [this]
end Go.Proofs.Ythfmmkgdheemhaa
