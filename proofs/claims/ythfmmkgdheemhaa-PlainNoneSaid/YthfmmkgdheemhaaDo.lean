import Derived.Test.YthfmmkgdheemhaaPut6
import Derived.Test.YthfmmkgdheemhaaTail
namespace Go.Proofs.Ythfmmkgdheemhaa
open Go.RowKit
open Go
attribute [local go_sem] grow_cell grow_frozen grow_setCell

theorem infoPrim : (Try.prog.info? 56).map (·.size) = some 88 := by kernel_rfl

theorem tmod_nat (k n : Nat) : Int.tmod (k : Int) (n : Int) = ((k % n : Nat) : Int) := by
  rw [Int.tmod_eq_emod_of_nonneg (by omega)]; rfl
theorem tdiv_nat (k n : Nat) : Int.tdiv (k : Int) (n : Int) = ((k / n : Nat) : Int) := by
  rw [Int.tdiv_eq_ediv_of_nonneg (by omega)]; rfl

/-- One round of Do. -/
def doPix (pf : Px → Nat → Nat → Px) (wd k : Nat) (pix : Nat → Px) : Nat → Px := fun i => if i < k then pf (pix i) (i % wd) (i / wd) else pix i
theorem doPix_succ (pf : Px → Nat → Nat → Px) (wd k : Nat) (pix : Nat → Px) :
    (fun i => if i = k then pf (pix k) (k % wd) (k / wd) else doPix pf wd k pix i) = doPix pf wd (k + 1) pix := by
  funext i
  unfold doPix
  by_cases h : i = k
  · subst h; simp
  · by_cases h2 : i < k
    · simp [h, h2, show i < k + 1 by omega]
    · simp [h, h2, show ¬ i < k + 1 by omega]

set_option maxHeartbeats 4000000 in
set_option maxRecDepth 100000 in
theorem do_bad (w : World) (pb : Nat) (c : Array Value) (hc : c.size = 88) (e : Int) (he : e ≠ 0) (hck : ∀ W, Grew w W → Calls Try.prog 10 #[.agg c] W fun r W' => r = .returned (.int .i64 e) ∧ Grew W W') :
    Calls Try.prog 6 #[.pointer (some ⟨pb, 0, none⟩), .agg c] w fun r w' => r = .returned (.int .i64 e) ∧ Grew w w' := by
  have HC := Lib.hid hck
  have hb : (e != 0) = true := bne_iff_ne.2 he
  clear hck he
  go_enter Try.func6, Try.ntmps6
  go_wp2_with (first | (refine wpList_load_row rfl 56 (Operand.tmp 3) rfl w.heap.size rfl 56 c (0, 0) _ (heap_alloc_new _ _) Try.underlying56 rfl (by rw [hc]; exact infoPrim) ?_) | (go_at_call 10; refine (HC.out _ ((Grew.refl w).alloc _)).mono ?_; rintro r w1 ⟨rfl, hg⟩))
  go_ret
  exact ⟨rfl, ((Grew.refl w).alloc _).trans hg⟩

set_option maxHeartbeats 4000000 in
set_option maxRecDepth 100000 in
theorem do_ok (w : World) (pb B wd ht cap : Nat) (pix : Nat → Px) (hP : Pic w pb B wd ht cap pix) (hw : 1 ≤ wd) (hw2 : wd ≤ 256) (hh : ht ≤ 256)
    (c : Array Value) (hc : c.size = 88)
    (hck : ∀ W, Grew w W → Calls Try.prog 10 #[.agg c] W fun r W' => r = .returned (.int .i64 0) ∧ Grew W W')
    (pf : Px → Nat → Nat → Px) (hok : ∀ i, i < wd * ht → (pix i).ok = true)
    (hpx : ∀ W p (x y : Nat), w.grownBy W (some B) → p.ok = true → x < 256 → y < 256 → Calls Try.prog 11 #[p.val, .agg c, .int .i64 x, .int .i64 y] W fun r W' => r = .returned (pf p x y).val ∧ Grew W W') :
    Calls Try.prog 6 #[.pointer (some ⟨pb, 0, none⟩), .agg c] w fun r w' => r = .returned (.int .i64 0) ∧ Pic w' pb B wd ht cap (fun i => pf (pix i) (i % wd) (i / wd)) ∧ w.grownBy w' (some B) := by
  have HC := Lib.hid hck
  have HX := Lib.hid hpx
  have HOK := Lib.hid hok
  have hn : wd * ht ≤ 65536 := by
    have : wd * ht ≤ 256 * 256 := Nat.mul_le_mul hw2 hh
    omega
  have HP := Lib.hid hP
  have hlt := hP.lt
  have hltB := hP.ltB
  have hne := hP.ne
  have c2 := hP.c2
  clear hck hpx hok hP
  go_enter Try.func6, Try.ntmps6
  go_wp2_with (first | (refine wpList_load_row rfl 56 (Operand.tmp 3) rfl w.heap.size rfl 56 c (0, 0) _ (heap_alloc_new _ _) Try.underlying56 rfl (by rw [hc]; exact infoPrim) ?_) | (go_at_call 10; refine (HC.out _ ((Grew.refl w).alloc _)).mono ?_; rintro r w1 ⟨rfl, hg⟩; have hg0 := ((Grew.refl w).alloc _).trans hg; have d2 := hg0.cell c2))
  have hb1 : w1.heap[w.heap.size]? = some (.cells c 56) := by
    obtain ⟨n1, s1, rfl⟩ := hg.ex
    rw [Sort.heap_grow_old _ _ (by simp), World.heap_drewN]
    exact heap_alloc_new _ _
  have HB1 := Lib.hid hb1
  have HP1 := Lib.hid (HP.out.grew hg0)
  have HG1 := Lib.hid (hg0.gb (some B))
  have hs1 : w.heap.size < w1.heap.size := (Array.getElem?_eq_some_iff.1 hb1).1
  clear hb1 hg hg0 d2 c2
  have ez : ((wd : Int) == 0) = false := by simp; omega
  generalize hN : wd * ht = N at *
  rw [show (wd : Int) * (ht : Int) = ((N : Nat) : Int) from by rw [← hN]; simp]
  go_loopw [20] (fun v W => ∃ k : Nat, v = .int .i64 k ∧ Hid (k ≤ N) ∧ Hid (Pic W pb B wd ht cap (doPix pf wd k pix)) ∧ Hid (w1.grownBy W (some B))) (fun v _ => N - (intAt v).toNat)
  case atStart => exact ⟨0, rfl, Lib.hid (Nat.zero_le _), Lib.hid (by rw [show doPix pf wd 0 pix = pix from funext fun i => by simp [doPix]]; exact HP1.out), Lib.hid (gb_refl _ _)⟩
  case round =>
    obtain ⟨k, rfl, hk, hP, hG⟩ := hrel
    by_cases hlt : k < N
    · have c0 := hP.out.c0
      have c2 := hP.out.c2
      rw [hN] at c2
      have hlp := hP.out.lt
      have hlB := hP.out.ltB
      obtain ⟨p0, p1, p2, p3, p4, p5⟩ := hP.out.px k (by rw [hN]; exact hlt)
      have hkk : doPix pf wd k pix k = pix k := by simp [doPix]
      rw [hkk] at p0 p1 p2 p3 p4 p5
      have hbw : wr.heap[w.heap.size]? = some (.cells c 56) := by
        rw [hG.out.block _ hs1 (fun e => by cases e; omega)]
        exact HB1.out
      have HBW := Lib.hid hbw
      clear hbw
      have hpp : (pix k).ok = true := HOK.out k hlt
      obtain ⟨p, hp⟩ : ∃ p, p = pix k := ⟨_, rfl⟩
      rw [← hp] at p0 p1 p2 p3 p4 p5 hpp
      have HPK := Lib.hid hp
      obtain ⟨q, hq⟩ : ∃ q, q = pf p (k % wd) (k / wd) := ⟨_, rfl⟩
      have hx256 : k % wd < 256 := Nat.lt_of_lt_of_le (Nat.mod_lt _ hw) hw2
      have hy256 : k / wd < 256 := by
        have : k / wd < ht := Nat.div_lt_of_lt_mul (by rw [hN]; exact hlt)
        omega
      have hX := fun W hW => HX.out W p (k % wd) (k / wd) hW hpp hx256 hy256
      rw [← hq] at hX
      have HQ := Lib.hid hq
      have HXX := Lib.hid hX
      clear hX hq hp hkk hpp
      obtain ⟨r, g, b, a, z, s⟩ := p
      obtain ⟨r', g', b', a', z', s'⟩ := q
      simp only [Px.val, px] at HXX
      rw [show ((k % wd : Nat) : Int) = (k : Int) % (wd : Int) from rfl, show ((k / wd : Nat) : Int) = (k : Int) / (wd : Int) from rfl] at HXX
      have ed2 : IntKind.i64.wrap ((k : Int) / (wd : Int)) = (k : Int) / (wd : Int) := i64_w (k / wd) (by omega)
      have hwz : ¬ wd = 0 := by omega
      simp only at p0 p1 p2 p3 p4 p5
      go_wp2
      obtain ⟨V, hV⟩ : ∃ V, V = wr.alloc (.cells #[.int .i64 r, .int .i64 g, .int .i64 b, .int .i64 a, .int .i64 z, .int .i64 s] 34) := ⟨_, rfl⟩
      rw [← hV]
      have hGV : Grew wr V := by rw [hV]; exact (Grew.refl wr).alloc _
      have v0 := hGV.cell c0
      have v2 := hGV.cell c2
      have hlV : wr.heap.size < V.heap.size := by rw [hV]; simp
      have x0 : V.cell? ⟨wr.heap.size, 0, none⟩ = some (.int .i64 r) := by rw [hV]; simp
      have x1 : V.cell? ⟨wr.heap.size, 1, none⟩ = some (.int .i64 g) := by rw [hV]; simp
      have x2 : V.cell? ⟨wr.heap.size, 2, none⟩ = some (.int .i64 b) := by rw [hV]; simp
      have x3 : V.cell? ⟨wr.heap.size, 3, none⟩ = some (.int .i64 a) := by rw [hV]; simp
      have x4 : V.cell? ⟨wr.heap.size, 4, none⟩ = some (.int .i64 z) := by rw [hV]; simp
      have x5 : V.cell? ⟨wr.heap.size, 5, none⟩ = some (.int .i64 s) := by rw [hV]; simp
      have hbV : V.heap[w.heap.size]? = some (.cells c 56) := by
        obtain ⟨n1, s1, hq⟩ := hGV.ex
        rw [hq, Sort.heap_grow_old _ _ (by simp; exact (Array.getElem?_eq_some_iff.1 HBW.out).1), World.heap_drewN]
        exact HBW.out
      have hpV : pb < V.heap.size := by omega
      have hBV : B < V.heap.size := by omega
      have HBV := Lib.hid hbV
      have HV := Lib.hid hV
      have HGV := Lib.hid hGV
      clear hV hGV hbV c0 c2
      refine wp_grown_tail 20 (by kernel_rfl) (by kernel_rfl) ?_
      simp only [List.take_succ_cons, List.take_zero, List.drop_succ_cons, List.drop_zero]
      iterate 6 quiet_step (fail)
      refine wpQuiet_step (fun K hK => ?_)
      rw [if_pos (by rfl)]
      refine quiet_load_row 56 _ rfl w.heap.size (by rfl) 56 c (0, 0) _ (grow_heap HBV.out) Try.underlying56 rfl (by rw [hc]; exact infoPrim) (hK _ ?_)
      clear hK K
      repeat (quiet_step ((go_at_call 11; exact Grew.call (HXX.out _ (gb_trans HG1.out (gb_trans hG.out (gb_trans (HGV.out.gb _) ((Grew.of _ _).gb _))))))))
      refine wpQuiet_nil ?_
      intro w2 hw2'
      have hg2 : Grew wr w2 := HGV.out.trans hw2'
      have q0 := hg2.cell p0
      have q1 := hg2.cell p1
      have q2 := hg2.cell p2
      have q3 := hg2.cell p3
      have q4 := hg2.cell p4
      have q5 := hg2.cell p5
      have ff := fun j => (hg2.frozen ⟨B, j, none⟩ hlB).trans (hP.out.fr j)
      have f0 := ff (k * 6)
      have f1 := ff (k * 6 + 1)
      have f2 := ff (k * 6 + 2)
      have f3 := ff (k * 6 + 3)
      have f4 := ff (k * 6 + 4)
      have f5 := ff (k * 6 + 5)
      have HG2 := Lib.hid hg2
      clear hg2 hw2' p0 p1 p2 p3 p4 p5 v0 v2 x0 x1 x2 x3 x4 x5 ff ed2
      go_wp2
      have HF := Lib.hid ((hP.out.grew HG2.out).put k (by rw [hN]; exact hlt) ⟨r', g', b', a', z', s'⟩)
      go_roundw
      case rel => exact ⟨k + 1, by go_num, Lib.hid hlt, Lib.hid (by
        have h := HF.out
        have e : (fun i => if i = k then (⟨r', g', b', a', z', s'⟩ : Px) else doPix pf wd k pix i) = doPix pf wd (k + 1) pix := by rw [HQ.out, HPK.out, doPix_succ]
        rw [e] at h
        exact h), Lib.hid (gb_trans hG.out (gb_trans (HG2.out.gb _) (put6_gb w2 B k ⟨r', g', b', a', z', s'⟩)))⟩
      case measure => simp [intAt]; omega
    · go_wp2
      go_ret
      have h := hP.out
      refine ⟨rfl, ⟨h.c0, h.c1, h.c2, h.ne, h.lt, h.ltB, fun i hi => ?_, h.fr⟩, gb_trans HG1.out hG.out⟩
      have := h.px i hi
      have hik : i < k := by rw [hN] at hi; omega
      simpa [doPix, hik] using this
end Go.Proofs.Ythfmmkgdheemhaa
