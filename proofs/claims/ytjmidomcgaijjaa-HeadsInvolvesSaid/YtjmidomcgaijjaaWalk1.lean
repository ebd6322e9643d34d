/- The smallest functions of the stack: what is there, put, low. -/
import Derived.Test.YtjmidomcgaijjaaSets
namespace Go.Proofs.Ytjmidomcgaijjaa
set_option linter.unusedVariables false
open Go.RowKit

/-- the slice value v holds the numbers l -/
def Ints (w : World) (v : Value) (l : List Int) : Prop := Reads w 1 v l.length (l.map (Value.int .i64))

theorem Reads.of_cells {w w' : World} {sz n : Nat} {v : Value} {xs : List Value} (h : Reads w sz v n xs) (hk : ∀ (p : Addr) u, w.cell? p = some u → w'.cell? p = some u) : Reads w' sz v n xs := by
  obtain ⟨A, c, rfl, h1, h2, h0, h3, h4⟩ := h
  exact ⟨A, c, rfl, h1, h2, h0, h3, fun hn => by obtain ⟨ad, e, hc⟩ := h4 hn; exact ⟨ad, e, fun j u hu => hk _ _ (hc j u hu)⟩⟩
theorem cell_keep_map {w w' : World} {m : Nat} {es : Array MapEntry} {c : Nat} (hm : w.heap[m]? = some (.map es c)) (hu : Upd (· = m) w w') (p : Addr) (u : Value) (h : w.cell? p = some u) : w'.cell? p = some u := by
  have hlt : p.block < w.heap.size := World.block_lt_of_cell? w p h
  rw [hu.cell hlt]
  · exact h
  · intro e
    unfold World.cell? at h
    rw [e, hm] at h
    cases h
theorem SetAt.cell_keep {w w' : World} {m : Nat} {xs : List Int} (hs : SetAt w m xs) (hu : Upd (· = m) w w') (p : Addr) (u : Value) (h : w.cell? p = some u) : w'.cell? p = some u := by
  obtain ⟨_, _, hm, _⟩ := hs; exact cell_keep_map hm hu p u h
theorem Ints.form {w : World} {v : Value} {l : List Int} (h : Ints w v l) : ∃ A c, v = .slice A l.length c ∧ l.length ≤ c ∧ c ≤ maxLen ∧ (A = none → c = 0) ∧ (0 < l.length → ∃ b o, A = some ⟨b, o, none⟩ ∧ ∀ j, j < l.length → w.cell? ⟨b, o + j, none⟩ = some (.int .i64 (l.getD j 0))) := by
  obtain ⟨A, c, rfl, h1, h2, h0', h3, h4⟩ := h
  refine ⟨A, c, rfl, h1, h2, h0', fun hn => ?_⟩
  obtain ⟨⟨b, o, s⟩, rfl, hc⟩ := h4 hn
  have h0 := hc 0 (.int .i64 (l.getD 0 0)) (by simp [List.getD, hn])
  have hs : s = none := by simpa [Addr.add] using World.cell?_spot h0
  subst hs
  refine ⟨b, o, rfl, fun j hj => ?_⟩
  have := hc j (.int .i64 (l.getD j 0)) (by simp [List.getD, hj])
  rwa [Addr.add_lit] at this

def insAll (l xs : List Int) : List Int := l.foldl (fun s x => ins x s) xs
theorem insAll_snoc (l xs : List Int) (k : Nat) (hk : k < l.length) : insAll (l.take (k + 1)) xs = ins (l.getD k 0) (insAll (l.take k) xs) := by
  unfold insAll
  rw [List.take_succ_eq_append_getElem hk, List.foldl_append]
  simp [List.getD, hk]

set_option maxRecDepth 100000 in
set_option maxHeartbeats 400000 in
theorem put_any (m : Nat) (xs l : List Int) (v : Value) (w : World) (hs : SetAt w m xs) (hl : Ints w v l) :
    Calls Try.prog 51 #[.map (some m), v] w fun e w' => e = .returned (.tuple #[]) ∧ SetAt w' m (insAll l xs) ∧ Upd (· = m) w w' ∧ w'.heap.size = w.heap.size := by
  obtain ⟨A, c, rfl, hc, hm, _, hcells⟩ := hl.form
  unfold maxLen at hm
  go_enter Try.func51, Try.ntmps51
  go_wp2
  go_loopw [8] (fun i wr => ∃ k : Nat, k ≤ l.length ∧ i = .int .i64 k ∧ SetAt wr m (insAll (l.take k) xs) ∧ Upd (· = m) w wr ∧ wr.heap.size = w.heap.size) (fun i _ => l.length - (intOf i).toNat)
  case atStart => exact ⟨0, Nat.zero_le _, rfl, hs, Upd.refl _ _, rfl⟩
  case round =>
    obtain ⟨k, hk, rfl, hsk, hu, hsz⟩ := hrel
    by_cases hlt : k < l.length
    · obtain ⟨b, o, rfl, hcell⟩ := hcells (by omega)
      have hck : wr.cell? ⟨b, o + k, none⟩ = some (.int .i64 (l.getD k 0)) := hs.cell_keep hu _ _ (hcell k hlt)
      obtain ⟨w1, hrun, hs1, hu1, hz1⟩ := run_put (P := Try.prog) Try.underlying81 Try.underlying3 hsk (l.getD k 0)
      rw [← insAll_snoc l xs k hlt] at hs1
      have H1 : Hid (w1.heap.size = wr.heap.size) := hz1
      have H2 : Hid (wr.heap.size = w.heap.size) := hsz
      clear hz1 hsz hcell hcells
      generalize hx : l.getD k 0 = x at *
      clear hx
      go_wp2
      go_roundw
      case rel => exact ⟨k + 1, by omega, by go_num, hs1, hu.trans hu1, H1.out.trans H2.out⟩
      case measure => simp [intOf]; omega
    · go_wp2
      go_end0
      obtain rfl : k = l.length := by omega
      rw [List.take_length] at hsk
      exact ⟨rfl, hsk, hu, hsz⟩
end Go.Proofs.Ytjmidomcgaijjaa
