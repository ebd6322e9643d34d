/- No stack, or one that was not made: what its methods tell. -/
import Derived.Test.YtjmidomcgaijjaaUni
import Derived.BigQuiet
namespace Go.Proofs.Ytjmidomcgaijjaa
set_option linter.unusedVariables false
set_option linter.unusedSimpArgs false
open Go.RowKit

/-- P is no stack -/
def NoStk (w : World) (P : Value) : Prop := ∀ W, Below w.heap.size w W → Calls Try.prog 39 #[P] W fun e w' => e = .returned (.bool false) ∧ W = w'
theorem noStk_none (w : World) : NoStk w (.pointer none) := fun W _ => is_nil W
theorem NoStk.unmade {w : World} {b : Nat} (h : w.cell? ⟨b, 0, none⟩ = some (.bool false)) : NoStk w (.pointer (some ⟨b, 0, none⟩)) := fun W hb =>
  is_unmade b W ((hb.cell (p := ⟨b, 0, none⟩) (World.block_lt_of_cell? w _ h)).trans h)
theorem NoStk.ext {w w' : World} {P : Value} (h : NoStk w P) (hb : Below w.heap.size w w') : NoStk w' P := fun W hW => h W (ext_trans hb hW)

theorem drew_ext' {w : World} (n : Nat) : Below w.heap.size w (w.drewN n) := ⟨rfl, rfl, rfl, Nat.le_refl _, fun _ _ => rfl⟩
section
variable {P : Value} {w : World}
set_option maxRecDepth 100000 in
set_option maxHeartbeats 400000 in
theorem enter_no (h : NoStk w P) (r pl : Int) : Calls Try.prog 21 #[P, .int .i64 r, .int .i64 pl] w fun e w' => e = .returned (.int .i64 1) ∧ Below w.heap.size w w' := by
  have H := Lib.hid (h w (ext_refl w))
  clear h
  go_enter Try.func21, Try.ntmps21
  go_wp2_with (first | (go_at_call 39; refine H.out.mono ?_; rintro e w1 ⟨rfl, rfl⟩))
  go_ret
  exact ⟨rfl, ext_refl _⟩
set_option maxRecDepth 100000 in
set_option maxHeartbeats 400000 in
theorem read_no (h : NoStk w P) (r pl : Int) : Calls Try.prog 23 #[P, .int .i64 r, .int .i64 pl] w fun e w' => e = .returned (.int .i64 1) ∧ Below w.heap.size w w' := by
  have H := Lib.hid (h w (ext_refl w))
  clear h
  go_enter Try.func23, Try.ntmps23
  go_wp2_with (first | (go_at_call 39; refine H.out.mono ?_; rintro e w1 ⟨rfl, rfl⟩))
  go_ret
  exact ⟨rfl, ext_refl _⟩
set_option maxRecDepth 100000 in
set_option maxHeartbeats 400000 in
theorem use_no (h : NoStk w P) (pl : Int) (v : Value) : Calls Try.prog 25 #[P, .int .i64 pl, v] w fun e w' => e = .returned (.int .i64 1) ∧ Below w.heap.size w w' := by
  have H := Lib.hid (h w (ext_refl w))
  clear h
  go_enter Try.func25, Try.ntmps25
  go_wp2_with (first | (go_at_call 39; refine H.out.mono ?_; rintro e w1 ⟨rfl, rfl⟩))
  go_ret
  exact ⟨rfl, ext_refl _⟩
set_option maxRecDepth 100000 in
set_option maxHeartbeats 400000 in
theorem leave_no (h : NoStk w P) : Calls Try.prog 27 #[P] w fun e w' => e = .returned (.tuple #[.agg #[.int .i64 0, .int .i64 0, .slice none 0 0, .bool false], .int .i64 1]) ∧ Below w.heap.size w w' := by
  have H := Lib.hid (fun o => h (w.alloc o) ((ext_refl w).alloc (Nat.le_refl _) o))
  clear h
  go_enter Try.func27, Try.ntmps27
  go_wp2_with (first | (go_at_call 39; refine (H.out _).mono ?_; rintro e w1 ⟨rfl, rfl⟩))
  refine bodyPost_ret (v := .tuple #[.agg #[.int .i64 0, .int .i64 0, .slice none 0 0, .bool false], .int .i64 1]) (by simp [results, Try.results27, go_sem]) rfl ⟨rfl, (ext_refl w).alloc (Nat.le_refl _) _⟩
set_option maxRecDepth 100000 in
set_option maxHeartbeats 400000 in
theorem free_no {a : Option Addr} (h : NoStk w (.pointer a)) (pl : Int) (v : Value) : Calls Try.prog 17 #[.pointer a, .int .i64 pl, v] w fun e w' => e = .returned (.bool false) ∧ Below w.heap.size w w' := by
  have hB : Below w.heap.size w ((w.alloc (.cells #[.pointer a] 25)).alloc (.cells #[.int .i64 pl] 3)) := ((ext_refl w).alloc (Nat.le_refl _) _).alloc (by simp) _
  have HB := Lib.hid hB
  have H := Lib.hid (h _ hB)
  have b1 : ((w.alloc (.cells #[.pointer a] 25)).alloc (.cells #[.int .i64 pl] 3)).cell? ⟨w.heap.size, 0, none⟩ = some (.pointer a) := ((Blk.new w 25 #[.pointer a]).alloc _).cell 0
  clear h hB
  go_enter Try.func17, Try.ntmps17
  go_wp2_with (first | (go_at_call 39; refine H.out.mono ?_; rintro e w1 ⟨rfl, rfl⟩))
  go_ret
  exact ⟨rfl, HB.out⟩
set_option maxRecDepth 100000 in
set_option maxHeartbeats 400000 in
theorem involved_no (h : NoStk w P) (r pl : Int) : Calls Try.prog 11 #[P, .int .i64 r, .int .i64 pl] w fun e w' => e = .returned (.slice none 0 0) ∧ Below w.heap.size w w' := by
  have H := Lib.hid (h w (ext_refl w))
  clear h
  go_enter Try.func11, Try.ntmps11
  go_wp2_with (first | (go_at_call 39; refine H.out.mono ?_; rintro e w1 ⟨rfl, rfl⟩))
  go_ret
  exact ⟨rfl, ext_refl _⟩
set_option maxRecDepth 100000 in
set_option maxHeartbeats 400000 in
theorem pairs_no (h : NoStk w P) : Calls Try.prog 54 #[P] w fun e w' => e = .returned (.slice none 0 0) ∧ Below w.heap.size w w' := by
  have H := Lib.hid (h w (ext_refl w))
  clear h
  go_enter Try.func54, Try.ntmps54
  go_wp2_with (first | (go_at_call 39; refine H.out.mono ?_; rintro e w1 ⟨rfl, rfl⟩))
  go_ret
  exact ⟨rfl, ext_refl _⟩
set_option maxRecDepth 100000 in
set_option maxHeartbeats 400000 in
theorem tainted_no (h : NoStk w P) : Calls Try.prog 13 #[P] w fun e w' => e = .returned (.bool false) ∧ Below w.heap.size w w' := by
  have H := Lib.hid (fun n => calls_flip (h (w.drewN n) (drew_ext' n)))
  clear h
  go_enter Try.func13, Try.ntmps13
  go_wp2
  go_quiet ((go_at_call 39; exact Calls.quiet_of_same (H.out _)))
  go_wp2
  go_ret
  exact ⟨rfl, drew_ext' _⟩
set_option maxRecDepth 100000 in
set_option maxHeartbeats 400000 in
theorem copy_no (h : NoStk w P) : Calls Try.prog 30 #[P] w fun e w' => e = .returned (.pointer none) ∧ Below w.heap.size w w' := by
  have H := Lib.hid (h w (ext_refl w))
  clear h
  go_enter Try.func30, Try.ntmps30
  go_wp2_with (first | (go_at_call 39; refine H.out.mono ?_; rintro e w1 ⟨rfl, rfl⟩))
  go_ret
  exact ⟨rfl, ext_refl _⟩
end
end Go.Proofs.Ytjmidomcgaijjaa
