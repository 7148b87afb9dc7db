import Derived.Test.YthfmmkgdheemhaaPixs
namespace Go.Proofs.Ythfmmkgdheemhaa
open Go Go.RowKit Go.Shelf
attribute [local go_sem] Oper.semAt_some

theorem pixels_stops (n : Nat) (hn : 1 ≤ n) (Br : Nat) (x0 y0 x1 y1 : Int) (wd ht : Nat) (hwd : wd = (x1 - x0).toNat) (hht : ht = (y1 - y0).toNat) (hs : smallR x0 y0 x1 y1 = true) (w : World)
    (hBr : w.heap[Br]? = some (.cells #[.int .i64 x0, .int .i64 y0, .int .i64 x1, .int .i64 y1] 23)) :
    SeqStopsK Fence.wide n Try.prog 14 #[.pointer (some ⟨Br, 0, none⟩)] ptVal (KeepB Br) (fun ys => ys = pts x0 y0 wd (wd * ht)) (fun pre => ∃ k, k ≤ wd * ht ∧ pre = pts x0 y0 wd k) (wd * ht) w :=
  fun l J Jx W hW hJ _ hY h0 => pixels1_in n hn l Br x0 y0 x1 y1 J Jx W wd ht hwd hht hJ hs hY ((hW.block Br (Array.getElem?_eq_some_iff.1 hBr).1).trans hBr) h0

theorem pixels_calls (x0 y0 x1 y1 : Int) (w : World) :
    Calls Try.prog 8 #[rect x0 y0 x1 y1] w fun e w' => e = .returned (.func (.func 14) #[] #[.pointer (some ⟨w.heap.size, 0, none⟩)]) ∧ w' = w.alloc (.cells #[.int .i64 x0, .int .i64 y0, .int .i64 x1, .int .i64 y1] 23) := by
  unfold rect
  go_enter Try.func8, Try.ntmps8
  go_wp2
  go_ret
  exact ⟨rfl, rfl⟩
end Go.Proofs.Ythfmmkgdheemhaa
