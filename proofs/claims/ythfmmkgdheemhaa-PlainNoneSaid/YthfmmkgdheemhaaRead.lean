import Derived.Test.YthfmmkgdheemhaaRead2
namespace Go.Proofs.Ythfmmkgdheemhaa
open Go Go.RowKit Go.Shelf
attribute [local go_sem] Oper.semAt_some
attribute [local go_sem] grow_cell grow_frozen grow_setCell

theorem wp_act {P : Program} {c : Code} {Q : Exit → Act → World → Prop} {a : Act} {w : World} (h : ∀ A, Hid (A = a) → c.wp P Q A w) : c.wp P Q a w := h a (Lib.hid rfl)
theorem infoInt : (Try.prog.info? 3).map (fun i => (i.zero, i.size, i.bytes)) = some (some (.int .i64 0), 1, 8) := by kernel_rfl

set_option maxHeartbeats 8000000 in
set_option maxRecDepth 100000 in
theorem read_ok (w : World) (pb B wd ht cap : Nat) (pix : Nat → Px) (hP : Pic w pb B wd ht cap pix) (hw : wd ≤ 256) (hh : ht ≤ 256) (hok : ∀ i, i < wd * ht → (pix i).ok = true) (what x0 y0 x1 y1 : Int) (k1 : ¬ what < 0) (k2 : ¬ 2 < what) (hin : inPic wd ht x0 y0 x1 y1)
    (rw rh : Nat) (hrw : rw = (x1 - x0).toNat) (hrh : rh = (y1 - y0).toNat) :
    Calls Try.prog 4 #[.pointer (some ⟨pb, 0, none⟩), .int .i64 what, rect x0 y0 x1 y1] w fun e w' => ∃ v, e = .returned (.tuple #[.agg #[.int .i64 (x1 - x0), .int .i64 (y1 - y0), v], .int .i64 0]) ∧
      w'.ownsRow w.heap.size 3 1 v (rw * rh) ((pts x0 y0 rw (rw * rh)).map fun p => Value.int .i64 (shown what (lookPx wd ht pix p.1 p.2))) ∧ Below w.heap.size w w' := by
  have hm : Try.prog.follows .mixedOrders = true := by kernel_rfl
  obtain ⟨n1, n2, n3, n4, n5, n6⟩ := hin
  have hsm : smallR x0 y0 x1 y1 = true := by simp [smallR, smallNum]; omega
  have HP := Lib.hid hP
  have c0 := hP.c0
  have c1 := hP.c1
  have hpb := hP.lt
  have HS := Lib.hid hsm
  have HRW := Lib.hid hrw
  have HRH := Lib.hid hrh
  have HOK := Lib.hid hok
  have h1 : ¬ x0 < 0 := by omega
  have h2 : ¬ x1 < x0 := by omega
  have h3 : ¬ (wd : Int) < x1 := by omega
  have h4 : ¬ y0 < 0 := by omega
  have h5 : ¬ y1 < y0 := by omega
  have h6 : ¬ (ht : Int) < y1 := by omega
  have hrw6 : rw ≤ 256 := by omega
  have hrh6 : rh ≤ 256 := by omega
  clear hP hsm hrw hrh hok n1 n2 n3 n4 n5 n6
  have e1 : IntKind.i64.wrap (x1 - x0) = x1 - x0 := IntWalk.i64_in _ (by omega)
  have e2 : IntKind.i64.wrap (y1 - y0) = y1 - y0 := IntWalk.i64_in _ (by omega)
  have HPX := Lib.hid (pixels_calls x0 y0 x1 y1)
  unfold rect at HPX ⊢
  refine (callsIn_wide (n := 6)).1 (callsIn_of_wp_marks Try.func4 rfl trivial ?_ rfl)
  simp only [Try.ntmps4, List.size_toArray, List.length_cons, List.length_nil, Nat.reduceAdd, Nat.reduceSub, Array.replicate_succ, Array.replicate_zero, List.push_toArray, List.append_toArray, List.nil_append, List.cons_append]
  refine wpIn_wide.2 ?_
  go_wp2
  obtain ⟨V, hV⟩ : ∃ V, V = ((((w.alloc (.cells #[.pointer (some ⟨pb, 0, none⟩)] 24)).alloc (.cells #[.int .i64 what] 3)).alloc (.cells #[.int .i64 x0, .int .i64 y0, .int .i64 x1, .int .i64 y1] 23)).alloc (.cells #[.int .i64 0, .int .i64 0, .slice none 0 0] 27)) := ⟨_, rfl⟩
  rw [← hV]
  have hGV : Grew w V := by rw [hV]; exact ((((Grew.refl w).alloc _).alloc _).alloc _).alloc _
  have v0 := hGV.cell c0
  have v1 := hGV.cell c1
  have hlV : w.heap.size + 3 < V.heap.size := by rw [hV]; simp
  have l0 : w.heap.size < V.heap.size := by omega
  have l2 : w.heap.size + 1 + 1 < V.heap.size := by omega
  have lp : pb < V.heap.size := by omega
  have o0 : V.heap[w.heap.size]? = some (.cells #[.pointer (some ⟨pb, 0, none⟩)] 24) := by
    rw [hV, Below.heap_alloc _ _ _ (by simp <;> omega), Below.heap_alloc _ _ _ (by simp <;> omega), Below.heap_alloc _ _ _ (by simp <;> omega)]
    exact heap_alloc_new _ _
  have o1 : V.heap[w.heap.size + 1]? = some (.cells #[.int .i64 what] 3) := by
    have := heap_alloc_new (w.alloc (.cells #[.pointer (some ⟨pb, 0, none⟩)] 24)) (.cells #[.int .i64 what] 3)
    rw [World.size_alloc] at this
    rw [hV, Below.heap_alloc _ _ _ (by simp <;> omega), Below.heap_alloc _ _ _ (by simp <;> omega)]
    exact this
  have o2 : V.heap[w.heap.size + 1 + 1]? = some (.cells #[.int .i64 x0, .int .i64 y0, .int .i64 x1, .int .i64 y1] 23) := by
    have := heap_alloc_new ((w.alloc (.cells #[.pointer (some ⟨pb, 0, none⟩)] 24)).alloc (.cells #[.int .i64 what] 3)) (.cells #[.int .i64 x0, .int .i64 y0, .int .i64 x1, .int .i64 y1] 23)
    rw [World.size_alloc, World.size_alloc] at this
    rw [hV, Below.heap_alloc _ _ _ (by simp <;> omega)]
    exact this
  have o3 : V.heap[w.heap.size + 1 + 1 + 1]? = some (.cells #[.int .i64 0, .int .i64 0, .slice none 0 0] 27) := by
    rw [hV]
    have := heap_alloc_new (((w.alloc (.cells #[.pointer (some ⟨pb, 0, none⟩)] 24)).alloc (.cells #[.int .i64 what] 3)).alloc (.cells #[.int .i64 x0, .int .i64 y0, .int .i64 x1, .int .i64 y1] 23)) (.cells #[.int .i64 0, .int .i64 0, .slice none 0 0] 27)
    simpa using this
  have b0 := cell_of_row V _ 0 _ _ _ o0
  have r0 := cell_of_row V _ 0 _ _ _ o2
  have r1 := cell_of_row V _ 1 _ _ _ o2
  have r2 := cell_of_row V _ 2 _ _ _ o2
  have r3 := cell_of_row V _ 3 _ _ _ o2
  simp only [List.getElem?_toArray, List.getElem?_cons_zero, List.getElem?_cons_succ] at b0 r0 r1 r2 r3
  have HGV := Lib.hid hGV
  have O0 := Lib.hid o0
  have O1 := Lib.hid o1
  have O2 := Lib.hid o2
  have O3 := Lib.hid o3
  clear hV hGV c0 c1 o0 o1 o2 o3
  go_quiet_grown (fail)
  obtain ⟨X, hX⟩ : ∃ X, X = Sort.grow (V.drewN nq) osq := ⟨_, rfl⟩
  rw [← hX]
  clear l2
  have hGX : Grew V X := by rw [hX]; exact Grew.of _ _
  have HGX := Lib.hid (HGV.out.trans hGX)
  have p0 : X.heap[w.heap.size]? = some (.cells #[.pointer (some ⟨pb, 0, none⟩)] 24) := (hGX.below.block _ (Array.getElem?_eq_some_iff.1 O0.out).1).trans O0.out
  have p1 : X.heap[w.heap.size + 1]? = some (.cells #[.int .i64 what] 3) := (hGX.below.block _ (Array.getElem?_eq_some_iff.1 O1.out).1).trans O1.out
  have p2 : X.heap[w.heap.size + 1 + 1]? = some (.cells #[.int .i64 x0, .int .i64 y0, .int .i64 x1, .int .i64 y1] 23) := (hGX.below.block _ (Array.getElem?_eq_some_iff.1 O2.out).1).trans O2.out
  have p3 : X.heap[w.heap.size + 1 + 1 + 1]? = some (.cells #[.int .i64 0, .int .i64 0, .slice none 0 0] 27) := (hGX.below.block _ (Array.getElem?_eq_some_iff.1 O3.out).1).trans O3.out
  have r0 := cell_of_row X _ 0 _ _ _ p2
  have r1 := cell_of_row X _ 1 _ _ _ p2
  have r2 := cell_of_row X _ 2 _ _ _ p2
  have r3 := cell_of_row X _ 3 _ _ _ p2
  simp only [List.getElem?_toArray, List.getElem?_cons_zero, List.getElem?_cons_succ] at r0 r1 r2 r3
  have hSX : w.heap.size + 3 < X.heap.size := (Array.getElem?_eq_some_iff.1 p3).1
  have l2 : w.heap.size + 1 + 1 < X.heap.size := by omega
  have P0 := Lib.hid p0
  have P1 := Lib.hid p1
  have P3 := Lib.hid p3
  clear hX hGX p0 p1 p2 p3 O0 O1 O2 O3 b0 v0 v1 hlV l0 lp hm
  go_wp2_with (go_at_call 8; refine (HPX.out _).mono ?_; rintro e w1 ⟨rfl, hw1⟩)
  obtain ⟨W0, hW0⟩ : ∃ W0, W0 = (X.alloc (.cells #[.int .i64 (x1 - x0), .int .i64 (y1 - y0), .slice none 0 0] 27)).alloc (.cells #[.int .i64 x0, .int .i64 y0, .int .i64 x1, .int .i64 y1] 23) := ⟨_, rfl⟩
  rw [← hW0]
  have hgW : Grew w W0 := by rw [hW0]; exact (HGX.out.alloc _).alloc _
  have hgX0 : Grew X W0 := by rw [hW0]; exact ((Grew.refl X).alloc _).alloc _
  have hsz : W0.heap.size = X.heap.size + 2 := by rw [hW0]; simp
  have q1 : W0.heap[X.heap.size]? = some (.cells #[.int .i64 (x1 - x0), .int .i64 (y1 - y0), .slice none 0 0] 27) := by
    rw [hW0, Below.heap_alloc _ _ _ (by simp)]
    exact heap_alloc_new _ _
  have q2 : W0.heap[X.heap.size + 1]? = some (.cells #[.int .i64 x0, .int .i64 y0, .int .i64 x1, .int .i64 y1] 23) := by
    have := heap_alloc_new (X.alloc (.cells #[.int .i64 (x1 - x0), .int .i64 (y1 - y0), .slice none 0 0] 27)) (.cells #[.int .i64 x0, .int .i64 y0, .int .i64 x1, .int .i64 y1] 23)
    rw [hW0]
    simpa using this
  have hRI : RI w w.heap.size X.heap.size (X.heap.size + 2) (.pointer (some ⟨pb, 0, none⟩)) (.int .i64 what) (x1 - x0) (y1 - y0) (fun p => shown what (lookPx wd ht pix p.1 p.2)) [] W0 :=
    ⟨(hgX0.below.block _ (Array.getElem?_eq_some_iff.1 P0.out).1).trans P0.out, (hgX0.below.block _ (Array.getElem?_eq_some_iff.1 P1.out).1).trans P1.out, (hgX0.below.block _ (Array.getElem?_eq_some_iff.1 P3.out).1).trans P3.out,
      ⟨.slice none 0 0, q1, World.ownsRow_nil _ _ _ _⟩, hgW.below⟩
  have HRI := Lib.hid hRI
  have HQ2 := Lib.hid q2
  clear hW0 hRI q1 q2 hgW hgX0 r0 r1 r2 r3 e1 e2
  refine wp_act (fun A HA => ?_)
  refine (wpIn_wide (n := 6)).1 ?_
  have hpz : (rw * rh : Nat) ≤ 65536 := by
    have : rw * rh ≤ 256 * 256 := Nat.mul_le_mul hrw6 hrh6
    omega
  refine wpIn_rangeFunc_ownH rfl (by omega) (gf := 14) (lb := #[.pointer (some ⟨X.heap.size + 1, 0, none⟩)]) (by rw [HA.out]; rfl) trivial (enters_of Try.func14 (by kernel_rfl) rfl)
    (pixels_stops 5 (by omega) (X.heap.size + 1) x0 y0 x1 y1 rw rh HRW.out HRH.out HS.out W0 HQ2.out)
    (fun {A B C} (h : B.heap[X.heap.size + 1]? = A.heap[X.heap.size + 1]?) (k : C.heap[X.heap.size + 1]? = B.heap[X.heap.size + 1]?) => k.trans h)
    (fun W l o o' hl ho _ _ => (grownBy_putObj' W l o').block _ (by have := (Array.getElem?_eq_some_iff.1 ho).1; omega) (fun e => by cases e; omega))
    (Below.refl _ _) (fun _ => rfl)
    (fun pre W => RI w w.heap.size X.heap.size (X.heap.size + 2) (.pointer (some ⟨pb, 0, none⟩)) (.int .i64 what) (x1 - x0) (y1 - y0) (fun p => shown what (lookPx wd ht pix p.1 p.2)) pre W ∧ X.heap.size + 2 ≤ W.heap.size)
    (fun _ _ _ => False)
    (fun pre A B row hs hg hr => ⟨hs.1.own hg (fun r e => ⟨by have := (hr r e).1; omega, (hr r e).2⟩) (by omega), Nat.le_trans hs.2 hg.size⟩)
    (fun _ _ _ _ _ hs _ _ => hs)
    ⟨HRI.out, by omega⟩
    (fun x a' W => ∃ Bx, X.heap.size + 2 ≤ Bx ∧ W.heap[Bx]? = some (.cells #[.int .i64 x.1, .int .i64 x.2] 39) ∧ a' = { tmps := (A.tmps.setIfInBounds 80 (.agg #[.int .i64 x.1, .int .i64 x.2])).setIfInBounds 9 (.pointer (some ⟨Bx, 0, none⟩)), defers := [] })
    (fun x a' _ A B row hs hg hr => by obtain ⟨Bx, h1, h2, h3⟩ := hs; exact ⟨Bx, h1, cells_kept h2 hg (fun r e => (hr r e).2), h3⟩)
    ?assign ?body ?done ?stop
  case assign =>
    rintro l pre x W K ⟨hi, hsW⟩ hK
    obtain rfl := HA.out
    obtain ⟨v, hv, hrow⟩ := hi.ho
    have hO := (Array.getElem?_eq_some_iff.1 hv).1
    unfold ptVal
    gi_wp2
    exact hK _ _ ((KeepsOthers.alloc _ _).from _) (Below.heap_alloc _ _ _ (by omega)) ⟨hi.own (World.grownBy_alloc _ _ none) (fun r e => by cases e) (by omega), by simp; omega⟩ ⟨W.heap.size, by omega, heap_alloc_new _ _, rfl⟩
  case body =>
    rintro l pre x a' W hl ⟨r, hr⟩ ⟨hi, hsW⟩ ⟨Bx, hBx, bX, rfl⟩ hlt
    obtain rfl := HA.out
    simp only [List.setIfInBounds_toArray, List.set_cons_zero, List.set_cons_succ]
    obtain ⟨v, hv, hrow⟩ := hi.ho
    have HI := Lib.hid hi
    have HV := Lib.hid hv
    have HROW := Lib.hid hrow
    have HBX := Lib.hid bX
    have HAT := Lib.hid (at_any W pb B wd ht cap pix x.1 x.2 (HP.out.below hi.hb) hw hh)
    have lO := (Array.getElem?_eq_some_iff.1 hv).1
    have lB := (Array.getElem?_eq_some_iff.1 bX).1
    have k0 := cell_of_row W _ 0 _ _ _ hi.hp
    have k1 := cell_of_row W _ 0 _ _ _ bX
    have k2 := cell_of_row W _ 1 _ _ _ bX
    simp only [List.getElem?_toArray, List.getElem?_cons_zero, List.getElem?_cons_succ] at k0 k1 k2
    have hq := lookPx_ok wd ht pix x.1 x.2 HOK.out
    obtain ⟨q, hqe⟩ : ∃ q, q = lookPx wd ht pix x.1 x.2 := ⟨_, rfl⟩
    rw [← hqe] at HAT hq
    have HQE := Lib.hid hqe
    obtain ⟨cr, cg, cb, ca, cz, cs⟩ := q
    have hcol : colOk cr cg cb ca = true := by
      simp only [Px.ok, pxOk, Bool.and_eq_true] at hq
      simp_all
    have HPK := Lib.hid (pack_calls cr cg cb ca hcol)
    simp only [Px.val, px, col] at HAT HPK
    clear hi hv hrow bX hqe hq hcol hr
    have hwhat : what = 0 ∨ what = 1 ∨ what = 2 := by omega
    obtain ⟨i0, hi0, hz0, hz1, hz2⟩ := info_parts infoInt
    have hb1 : pre.length + 1 ≤ maxLen := by unfold maxLen; omega
    have hb2 : (pre.length + 1) * 8 ≤ 140737488355328 := by omega
    rcases hwhat with rfl | rfl | rfl
    · have hone : ∀ u ∈ [Value.int .i64 (packV cr cg cb ca)], u.oneCell' = true := by simp [Value.oneCell']
      gi_wp2_with (first
        | ((refine ⟨trivial, ?_⟩; gi_at_call 5; refine (CallsIn.inRound l (callsIn_wide.2 HAT.out)).mono ?_; rintro e w1 ⟨rfl, hg1⟩; have G1 := Lib.hid hg1; have co1 := cell_of_row w1 _ 2 _ _ _ (hg1.heap HV.out); have kc1 := cell_of_row w1 _ 0 _ _ _ (hg1.heap HI.out.hk); simp only [List.getElem?_toArray, List.getElem?_cons_zero, List.getElem?_cons_succ] at co1 kc1; have lo1 := (Array.getElem?_eq_some_iff.1 (hg1.heap HV.out)).1; have lk1 := (Array.getElem?_eq_some_iff.1 (hg1.heap HI.out.hk)).1; clear hg1))
        | ((refine ⟨trivial, ?_⟩; gi_at_call 9; refine (CallsIn.inRound l (callsIn_wide.2 (HPK.out _))).mono ?_; rintro e w2 ⟨rfl, hg2⟩; have G2 := Lib.hid ((G1.out.alloc _).trans hg2); have co2 := cell_of_row w2 _ 2 _ _ _ (G2.out.heap HV.out); simp only [List.getElem?_toArray, List.getElem?_cons_zero, List.getElem?_cons_succ] at co2; clear hg2))
        | (gi_at_builtin; have hg6 := G2.out; have hown0 := (hg6.row HROW.out).alloc (.cells #[.int .i64 (packV cr cg cb ca)] 3); have hsz6 : X.heap.size + 2 ≤ (World.alloc _ (.cells #[.int .i64 (packV cr cg cb ca)] 3)).heap.size := (by have := hg6.below.size; simp at this ⊢; omega : X.heap.size + 2 ≤ (World.alloc (w2) (.cells #[.int .i64 (packV cr cg cb ca)] 3)).heap.size); have hcell := cell_one_new (w2) (.int .i64 (packV cr cg cb ca)) 3; refine wpListIn_append_own _ rfl _ _ 25 rfl (X.heap.size + 2) 3 i0 (.int .i64 0) 1 8 Try.underlying25 hi0 hz0 hz1 hz2 rfl (by decide) _ _ _ rfl hown0 ⟨_, 0, none⟩ 1 1 [.int .i64 (packV cr cg cb ca)] rfl rfl hcell hone hb1 hb2 hsz6 ?_; intro v' w5 hown' hgrow _; obtain ⟨g', cap', rfl⟩ := ownsRow_succ hown'; obtain ⟨hRI5, hK5, hF5, hO5⟩ := (HI.out.grew hg6 (by omega)).app (x := x) (hg6.heap HV.out) (hg6.row HROW.out) (by have := hg6.below.size; omega) (by omega) (by omega) (by omega) (.cells #[.int .i64 (packV cr cg cb ca)] 3) (by rw [← HQE.out]; exact hown') hgrow; have co5 := cell_of_row w5 _ 2 _ _ _ hO5; have fo5 := frozen_of_row hO5 2; simp only [List.getElem?_toArray, List.getElem?_cons_zero, List.getElem?_cons_succ] at co5; have G6 := Lib.hid hg6; have H5 := Lib.hid hRI5; have K5 := Lib.hid hK5; have F5 := Lib.hid hF5; clear hRI5 hK5 hF5 hO5 hown' hgrow hg6 hown0 hsz6 hcell))
      exact ⟨(G6.out.keeps.trans K5.out).from _, (F5.out _ (by omega) (by omega) (by have := G6.out.below.size; omega)).trans (G6.out.below.block _ (by omega)), H5.out, by have := K5.out.size; have := G6.out.below.size; omega⟩
    · have hone : ∀ u ∈ [Value.int .i64 (cz)], u.oneCell' = true := by simp [Value.oneCell']
      gi_wp2_with (first
        | ((refine ⟨trivial, ?_⟩; gi_at_call 5; refine (CallsIn.inRound l (callsIn_wide.2 HAT.out)).mono ?_; rintro e w1 ⟨rfl, hg1⟩; have G1 := Lib.hid hg1; have co1 := cell_of_row w1 _ 2 _ _ _ (hg1.heap HV.out); have kc1 := cell_of_row w1 _ 0 _ _ _ (hg1.heap HI.out.hk); simp only [List.getElem?_toArray, List.getElem?_cons_zero, List.getElem?_cons_succ] at co1 kc1; have lo1 := (Array.getElem?_eq_some_iff.1 (hg1.heap HV.out)).1; have lk1 := (Array.getElem?_eq_some_iff.1 (hg1.heap HI.out.hk)).1; clear hg1))
        | (gi_at_builtin; have hg6 := G1.out.alloc (.cells #[.int .i64 cr, .int .i64 cg, .int .i64 cb, .int .i64 ca, .int .i64 cz, .int .i64 cs] 34); have hown0 := (hg6.row HROW.out).alloc (.cells #[.int .i64 (cz)] 3); have hsz6 : X.heap.size + 2 ≤ (World.alloc _ (.cells #[.int .i64 (cz)] 3)).heap.size := (by have := hg6.below.size; simp at this ⊢; omega : X.heap.size + 2 ≤ (World.alloc (w1.alloc (.cells #[.int .i64 cr, .int .i64 cg, .int .i64 cb, .int .i64 ca, .int .i64 cz, .int .i64 cs] 34)) (.cells #[.int .i64 (cz)] 3)).heap.size); have hcell := cell_one_new (w1.alloc (.cells #[.int .i64 cr, .int .i64 cg, .int .i64 cb, .int .i64 ca, .int .i64 cz, .int .i64 cs] 34)) (.int .i64 (cz)) 3; simp only [World.size_alloc] at hcell; refine wpListIn_append_own _ rfl _ _ 25 rfl (X.heap.size + 2) 3 i0 (.int .i64 0) 1 8 Try.underlying25 hi0 hz0 hz1 hz2 rfl (by decide) _ _ _ rfl hown0 ⟨_, 0, none⟩ 1 1 [.int .i64 (cz)] rfl rfl hcell hone hb1 hb2 hsz6 ?_; intro v' w5 hown' hgrow _; obtain ⟨g', cap', rfl⟩ := ownsRow_succ hown'; obtain ⟨hRI5, hK5, hF5, hO5⟩ := (HI.out.grew hg6 (by omega)).app (x := x) (hg6.heap HV.out) (hg6.row HROW.out) (by have := hg6.below.size; omega) (by omega) (by omega) (by omega) (.cells #[.int .i64 (cz)] 3) (by rw [← HQE.out]; exact hown') hgrow; have co5 := cell_of_row w5 _ 2 _ _ _ hO5; have fo5 := frozen_of_row hO5 2; simp only [List.getElem?_toArray, List.getElem?_cons_zero, List.getElem?_cons_succ] at co5; have G6 := Lib.hid hg6; have H5 := Lib.hid hRI5; have K5 := Lib.hid hK5; have F5 := Lib.hid hF5; clear hRI5 hK5 hF5 hO5 hown' hgrow hg6 hown0 hsz6 hcell))
      exact ⟨(G6.out.keeps.trans K5.out).from _, (F5.out _ (by omega) (by omega) (by have := G6.out.below.size; omega)).trans (G6.out.below.block _ (by omega)), H5.out, by have := K5.out.size; have := G6.out.below.size; omega⟩
    · have hone : ∀ u ∈ [Value.int .i64 (cs)], u.oneCell' = true := by simp [Value.oneCell']
      gi_wp2_with (first
        | ((refine ⟨trivial, ?_⟩; gi_at_call 5; refine (CallsIn.inRound l (callsIn_wide.2 HAT.out)).mono ?_; rintro e w1 ⟨rfl, hg1⟩; have G1 := Lib.hid hg1; have co1 := cell_of_row w1 _ 2 _ _ _ (hg1.heap HV.out); have kc1 := cell_of_row w1 _ 0 _ _ _ (hg1.heap HI.out.hk); simp only [List.getElem?_toArray, List.getElem?_cons_zero, List.getElem?_cons_succ] at co1 kc1; have lo1 := (Array.getElem?_eq_some_iff.1 (hg1.heap HV.out)).1; have lk1 := (Array.getElem?_eq_some_iff.1 (hg1.heap HI.out.hk)).1; clear hg1))
        | (gi_at_builtin; have hg6 := G1.out.alloc (.cells #[.int .i64 cr, .int .i64 cg, .int .i64 cb, .int .i64 ca, .int .i64 cz, .int .i64 cs] 34); have hown0 := (hg6.row HROW.out).alloc (.cells #[.int .i64 (cs)] 3); have hsz6 : X.heap.size + 2 ≤ (World.alloc _ (.cells #[.int .i64 (cs)] 3)).heap.size := (by have := hg6.below.size; simp at this ⊢; omega : X.heap.size + 2 ≤ (World.alloc (w1.alloc (.cells #[.int .i64 cr, .int .i64 cg, .int .i64 cb, .int .i64 ca, .int .i64 cz, .int .i64 cs] 34)) (.cells #[.int .i64 (cs)] 3)).heap.size); have hcell := cell_one_new (w1.alloc (.cells #[.int .i64 cr, .int .i64 cg, .int .i64 cb, .int .i64 ca, .int .i64 cz, .int .i64 cs] 34)) (.int .i64 (cs)) 3; simp only [World.size_alloc] at hcell; refine wpListIn_append_own _ rfl _ _ 25 rfl (X.heap.size + 2) 3 i0 (.int .i64 0) 1 8 Try.underlying25 hi0 hz0 hz1 hz2 rfl (by decide) _ _ _ rfl hown0 ⟨_, 0, none⟩ 1 1 [.int .i64 (cs)] rfl rfl hcell hone hb1 hb2 hsz6 ?_; intro v' w5 hown' hgrow _; obtain ⟨g', cap', rfl⟩ := ownsRow_succ hown'; obtain ⟨hRI5, hK5, hF5, hO5⟩ := (HI.out.grew hg6 (by omega)).app (x := x) (hg6.heap HV.out) (hg6.row HROW.out) (by have := hg6.below.size; omega) (by omega) (by omega) (by omega) (.cells #[.int .i64 (cs)] 3) (by rw [← HQE.out]; exact hown') hgrow; have co5 := cell_of_row w5 _ 2 _ _ _ hO5; have fo5 := frozen_of_row hO5 2; simp only [List.getElem?_toArray, List.getElem?_cons_zero, List.getElem?_cons_succ] at co5; have G6 := Lib.hid hg6; have H5 := Lib.hid hRI5; have K5 := Lib.hid hK5; have F5 := Lib.hid hF5; clear hRI5 hK5 hF5 hO5 hown' hgrow hg6 hown0 hsz6 hcell))
      exact ⟨(G6.out.keeps.trans K5.out).from _, (F5.out _ (by omega) (by omega) (by have := G6.out.below.size; omega)).trans (G6.out.below.block _ (by omega)), H5.out, by have := K5.out.size; have := G6.out.below.size; omega⟩
  case done =>
    rintro D ys W hD rfl ⟨hi, hsW⟩ hK
    obtain rfl := HA.out
    obtain ⟨v, hv, hrow⟩ := hi.ho
    have HI := Lib.hid hi
    have HROW := Lib.hid hrow
    have HK := Lib.hid hK
    have o0 := cell_of_row W _ 0 _ _ _ hv
    have o1 := cell_of_row W _ 1 _ _ _ hv
    have o2 := cell_of_row W _ 2 _ _ _ hv
    have s0 := cell_of_row W _ 0 _ _ _ hi.hr
    have s1 := cell_of_row W _ 1 _ _ _ hi.hr
    have s2 := cell_of_row W _ 2 _ _ _ hi.hr
    have f0 := frozen_of_row hi.hr 0
    have f1 := frozen_of_row hi.hr 1
    have f2 := frozen_of_row hi.hr 2
    simp only [List.getElem?_toArray, List.getElem?_cons_zero, List.getElem?_cons_succ] at o0 o1 o2 s0 s1 s2
    have hv1 : ∃ sa sl sc, v = .slice sa sl sc := by
      rcases hrow.2 with ⟨e, _⟩ | ⟨g, cap, cur, e, _⟩
      · exact ⟨_, _, _, e⟩
      · exact ⟨_, _, _, e⟩
    clear hi hrow hv hK
    obtain ⟨sa, sl, sc, rfl⟩ := hv1
    go_wp2
    obtain ⟨Y, hY⟩ : ∃ Y, Y = ((W.setCell ⟨w.heap.size + 1 + 1 + 1, 0, none⟩ (.int .i64 (x1 - x0))).setCell ⟨w.heap.size + 1 + 1 + 1, 1, none⟩ (.int .i64 (y1 - y0))).setCell ⟨w.heap.size + 1 + 1 + 1, 2, none⟩ (.slice sa sl sc) := ⟨_, rfl⟩
    rw [← hY]
    have gY : W.grownBy Y (some (w.heap.size + 1 + 1 + 1)) := by
      rw [hY]
      exact gb_trans (gb_trans (gb_setCell W _ _ _) (gb_setCell _ _ _ _)) (gb_setCell _ _ _ _)
    have hY3 : Y.heap[w.heap.size + 1 + 1 + 1]? = some (.cells #[.int .i64 (x1 - x0), .int .i64 (y1 - y0), .slice sa sl sc] 27) := by
      rw [hY]
      exact heap_setCell_same (heap_setCell_same (heap_setCell_same HI.out.hr 0 _) 1 _) 2 _
    have hKY : Y.heap[D]? = some (.deferred (some [])) := (gY.block D (Array.getElem?_eq_some_iff.1 HK.out).1 (fun e => by cases e; omega)).trans HK.out
    have hrowY : Y.ownsRow w.heap.size 3 1 (.slice sa sl sc) (rw * rh) ((pts x0 y0 rw (rw * rh)).map fun p => Value.int .i64 (shown what (lookPx wd ht pix p.1 p.2))) := by
      have h := HROW.out.kept gY (by
        rcases HROW.out.2 with ⟨e, _⟩ | ⟨g, cap, cur, e, hg, _⟩
        · rw [e]; exact .inl rfl
        · rw [e]; exact .inr fun e' => by simp [Value.ownBlock] at e'; omega)
      have h := ownsRow_mono h (by omega : w.heap.size ≤ X.heap.size + 2)
      rw [pts_length] at h
      exact h
    have hbY : Below w.heap.size w Y := HI.out.hb.grown gY (by omega) (fun k e => by cases e; omega)
    have HKY := Lib.hid hKY
    refine ⟨by simp, .inl ⟨_, _, rfl, run_takeDeferred hKY, ?_⟩⟩
    refine ⟨_, results_cell_row2 rfl _ _ (w.heap.size + 1 + 1 + 1) 27 #[.int .i64 (x1 - x0), .int .i64 (y1 - y0), .slice sa sl sc] (0, 0) _ (by rfl) ?_ Try.underlying27 rfl (by kernel_rfl), _, rfl, ownsRow_putObj hrowY _ hKY rfl, hbY.trans (belowK_b (w := w) (Nat.le_refl _) Y D _ _ (by omega) hKY rfl rfl)⟩
    rw [World.putObj_heap_other (by omega)]
    exact hY3
  case stop =>
    rintro D c pre W _ _ h _
    exact h.elim
end Go.Proofs.Ythfmmkgdheemhaa
