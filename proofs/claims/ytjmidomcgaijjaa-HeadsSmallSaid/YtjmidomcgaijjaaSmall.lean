/- HeadsSmall: the walk. -/
import Derived.Test.YtjmidomcgaijjaaDRow
import Derived.Test.YtjmidomcgaijjaaDoes
import Derived.Test.YtjmidomcgaijjaaNoneW
import Derived.Deep.Cut
import Derived.Laws.BitsLemmas
namespace Go.Proofs.Ytjmidomcgaijjaa
set_option linter.unusedVariables false
set_option linter.unusedSimpArgs false
open Go.RowKit

theorem and3 (x : Int) (h0 : 0 ≤ x) (h1 : x < 4096) : bits .and .i64 x 3 = 0 ∨ bits .and .i64 x 3 = 1 ∨ bits .and .i64 x 3 = 2 ∨ bits .and .i64 x 3 = 3 := by
  have h := bits_mask .i64 62 (by decide) (fun n a b => by rw [IntKind.wrap_i64]; omega) 2 (by decide) x h0 (by omega)
  have e : ((2 : Int) ^ 2 - 1) = 3 := by decide
  have e2 : ((2 : Int) ^ 2) = 4 := by decide
  rw [e, e2] at h
  rw [h]
  omega
theorem part_bounds (j k : Nat) (hj : j < 4096) (hk : k < 6) : 0 ≤ (j : Int) / 2 ^ (2 * k) ∧ (j : Int) / 2 ^ (2 * k) < 4096 := by
  have h : k = 0 ∨ k = 1 ∨ k = 2 ∨ k = 3 ∨ k = 4 ∨ k = 5 := by omega
  rcases h with rfl | rfl | rfl | rfl | rfl | rfl
  all_goals
    simp only [Nat.reduceMul, Int.reducePow]
    omega

set_option maxRecDepth 100000 in
set_option maxHeartbeats 3200000 in
theorem small_any (w : World) : Calls Try.prog 7 #[] w fun e w' => e = .returned (.bool true) ∧ Below w.heap.size w w' := by
  have HA := Lib.hid (fun W => awake_any W)
  have HN := Lib.hid (fun W => none_any W)
  have HDO := Lib.hid (fun v ds W h => does_any v ds W h)
  obtain ⟨i0, hi, hz0, hz1, hz2⟩ := info_parts (P := Try.prog) (e := 55) (z := .agg #[.int .i64 0, .int .i64 0, .int .i64 0, .slice none 0 0]) (size := 4) (bytes := 48) (by kernel_rfl)
  go_enter Try.func7, Try.ntmps7
  go_wp2
  go_loopw [1] (fun nv wr => ∃ j : Nat, j ≤ 4096 ∧ nv = .int .i64 j ∧ Below w.heap.size w wr) (fun nv _ => 4096 - (intOf nv).toNat)
  case atStart => exact ⟨0, by omega, rfl, ext_refl _⟩
  case round =>
    obtain ⟨j, hj, rfl, hbr⟩ := hrel
    have HBR := Lib.hid hbr
    clear hbr
    by_cases hlt : j < 4096
    · have hjl : (j : Int) < 4096 := by omega
      go_wp2
      go_loopw [2, 3] (fun lv kv wr => ∃ (k : Nat) (es : List (Dd × Value)), k ≤ 6 ∧ kv = .int .i64 k ∧ es.length = k ∧ DRow wr lv es ∧ Below w.heap.size w wr ∧ (∀ i, lv.ownBlock = some i → w.heap.size ≤ i)) (fun lv kv _ => 6 - (intOf kv).toNat)
      case atStart => exact ⟨0, [], by omega, rfl, rfl, DRow.nil _, HBR.out, fun i hi => by simp [Value.ownBlock] at hi⟩
      case round =>
        obtain ⟨k, es, hk, rfl, hel, hrow, hbr, hvb⟩ := hrel
        have HR := Lib.hid (And.intro hel (And.intro hrow (And.intro hbr hvb)))
        obtain ⟨Al, cl, rfl⟩ := ownsRow_form hrow.1
        have hes : es.length ≤ 6 := by omega
        clear hel hrow hbr hvb
        by_cases hltk : k < 6
        · have hkl : (k : Int) < 6 := by omega
          have hpb := part_bounds j k hlt hltk
          have hm := and3 _ hpb.1 hpb.2
          clear hpb
          go_upto_region 9 with (fail)
          generalize bits .and .i64 ((j : Int) / 2 ^ (2 * k)) 3 = m at *
          generalize hX : ((j : Int) / 2 ^ (2 * k)) = X at *
          clear hX
          rcases hm with rfl | rfl | rfl | rfl
          · have hA3 := ((((ext_refl wr).alloc (Nat.le_refl _) (.cells #[.int .i64 6, .int .i64 7, .int .i64 3, .int .i64 (5 - (j : Int) % 2 * 3)] 3)).alloc (by simp) (.cells #[.int .i64 ((k : Int) % 3), .int .i64 ((j : Int) % 3)] 3)).alloc (by simp; omega) (.cells #[.int .i64 6, .int .i64 (((j : Int) + (k : Int)) % 3), .int .i64 ((j : Int) % 2), .slice (some ⟨wr.heap.size + 1, 0, none⟩) 2 2] 55))
            have HA3 := Lib.hid hA3
            clear hA3
            go_wp2_with (first
              | (at_builtin; refine wpList_app rfl (.tmp 20) (.tmp 41) 48 rfl 55 i0 _ 4 48 Try.underlying48 hi hz0 hz1 hz2 rfl (by decide) (.slice Al es.length cl) es.length (es.flatMap dCells) rfl (HR.out.2.1.ext HA3.out).1 _ 1 1 [.int .i64 6, .int .i64 (((j : Int) + (k : Int)) % 3), .int .i64 ((j : Int) % 2), .slice (some ⟨wr.heap.size + 1, 0, none⟩) 2 2] rfl rfl (by simp) (cells_newA _ _ _ _ (by simp)) (by simp [Value.oneCell']) (by unfold maxLen; omega) (by omega) ?_
                 intro A2 c2 w2 hrow2 hu2 hv2 hz2'
                 have HP := Lib.hid (And.intro hrow2 (And.intro hu2 hv2))
                 clear hrow2 hu2 hv2 hz2'))
            go_roundw
            case rel =>
              have hlit : RowI ((((wr.alloc (.cells #[.int .i64 6, .int .i64 7, .int .i64 3, .int .i64 (5 - (j : Int) % 2 * 3)] 3)).alloc (.cells #[.int .i64 ((k : Int) % 3), .int .i64 ((j : Int) % 3)] 3)).alloc (.cells #[.int .i64 6, .int .i64 (((j : Int) + (k : Int)) % 3), .int .i64 ((j : Int) % 2), .slice (some ⟨wr.heap.size + 1, 0, none⟩) 2 2] 55))) (.slice (some ⟨wr.heap.size + 1, 0, none⟩) 2 2) [(k : Int) % 3, (j : Int) % 3] := by
                refine ⟨?_, fun h => by cases h⟩
                have h1 := World.ownsRow_lit (base := 0) (e := 3) (size := 1) (wr.alloc (.cells #[.int .i64 6, .int .i64 7, .int .i64 3, .int .i64 (5 - (j : Int) % 2 * 3)] 3)) #[.int .i64 ((k : Int) % 3), .int .i64 ((j : Int) % 3)] 2 (Nat.zero_le _) (by unfold maxLen; omega) rfl
                have h2 := h1.alloc (.cells #[.int .i64 6, .int .i64 (((j : Int) + (k : Int)) % 3), .int .i64 ((j : Int) % 2), .slice (some ⟨wr.heap.size + 1, 0, none⟩) 2 2] 55)
                simpa using h2
              have hpush := (HR.out.2.1.ext HA3.out).push (news := [(⟨6, ((j : Int) + (k : Int)) % 3, (j : Int) % 2, [(k : Int) % 3, (j : Int) % 3]⟩, .slice (some ⟨wr.heap.size + 1, 0, none⟩) 2 2)]) (fun e he => by
                obtain rfl := List.mem_singleton.1 he
                refine ⟨hlit, ?_, ?_, fun x hx => ?_, by simp⟩
                · unfold i64; dsimp only; omega
                · unfold i64; dsimp only; omega
                · have hx' : x = (k : Int) % 3 ∨ x = (j : Int) % 3 := by simpa using hx
                  unfold i64
                  omega) rfl rfl HP.out.1 HP.out.2.1
              exact ⟨k + 1, _, by omega, by go_num, by rw [List.length_append, HR.out.1]; rfl, hpush, (HR.out.2.2.1.trans (HA3.out.mono HR.out.2.2.1.size)).trans (HP.out.2.1.below (Nat.le_trans HR.out.2.2.1.size HA3.out.size) (fun i hi e => by have := HR.out.2.2.2 i e; omega)), fun i hi => by
                rcases HP.out.2.2 i hi with h | h
                · exact HR.out.2.2.2 i h
                · exact Nat.le_trans (Nat.le_trans HR.out.2.2.1.size HA3.out.size) h⟩
            case measure => simp [intOf]; omega
          · have hA3 := ((((ext_refl wr).alloc (Nat.le_refl _) (.cells #[.int .i64 6, .int .i64 7, .int .i64 3, .int .i64 (5 - (j : Int) % 2 * 3)] 3)).alloc (by simp) (.cells #[.int .i64 ((k : Int) % 3), .int .i64 ((j : Int) % 3)] 3)).alloc (by simp; omega) (.cells #[.int .i64 7, .int .i64 (((j : Int) + (k : Int)) % 3), .int .i64 ((j : Int) % 2), .slice (some ⟨wr.heap.size + 1, 0, none⟩) 2 2] 55))
            have HA3 := Lib.hid hA3
            clear hA3
            go_wp2_with (first
              | (at_builtin; refine wpList_app rfl (.tmp 20) (.tmp 41) 48 rfl 55 i0 _ 4 48 Try.underlying48 hi hz0 hz1 hz2 rfl (by decide) (.slice Al es.length cl) es.length (es.flatMap dCells) rfl (HR.out.2.1.ext HA3.out).1 _ 1 1 [.int .i64 7, .int .i64 (((j : Int) + (k : Int)) % 3), .int .i64 ((j : Int) % 2), .slice (some ⟨wr.heap.size + 1, 0, none⟩) 2 2] rfl rfl (by simp) (cells_newA _ _ _ _ (by simp)) (by simp [Value.oneCell']) (by unfold maxLen; omega) (by omega) ?_
                 intro A2 c2 w2 hrow2 hu2 hv2 hz2'
                 have HP := Lib.hid (And.intro hrow2 (And.intro hu2 hv2))
                 clear hrow2 hu2 hv2 hz2'))
            go_roundw
            case rel =>
              have hlit : RowI ((((wr.alloc (.cells #[.int .i64 6, .int .i64 7, .int .i64 3, .int .i64 (5 - (j : Int) % 2 * 3)] 3)).alloc (.cells #[.int .i64 ((k : Int) % 3), .int .i64 ((j : Int) % 3)] 3)).alloc (.cells #[.int .i64 7, .int .i64 (((j : Int) + (k : Int)) % 3), .int .i64 ((j : Int) % 2), .slice (some ⟨wr.heap.size + 1, 0, none⟩) 2 2] 55))) (.slice (some ⟨wr.heap.size + 1, 0, none⟩) 2 2) [(k : Int) % 3, (j : Int) % 3] := by
                refine ⟨?_, fun h => by cases h⟩
                have h1 := World.ownsRow_lit (base := 0) (e := 3) (size := 1) (wr.alloc (.cells #[.int .i64 6, .int .i64 7, .int .i64 3, .int .i64 (5 - (j : Int) % 2 * 3)] 3)) #[.int .i64 ((k : Int) % 3), .int .i64 ((j : Int) % 3)] 2 (Nat.zero_le _) (by unfold maxLen; omega) rfl
                have h2 := h1.alloc (.cells #[.int .i64 7, .int .i64 (((j : Int) + (k : Int)) % 3), .int .i64 ((j : Int) % 2), .slice (some ⟨wr.heap.size + 1, 0, none⟩) 2 2] 55)
                simpa using h2
              have hpush := (HR.out.2.1.ext HA3.out).push (news := [(⟨7, ((j : Int) + (k : Int)) % 3, (j : Int) % 2, [(k : Int) % 3, (j : Int) % 3]⟩, .slice (some ⟨wr.heap.size + 1, 0, none⟩) 2 2)]) (fun e he => by
                obtain rfl := List.mem_singleton.1 he
                refine ⟨hlit, ?_, ?_, fun x hx => ?_, by simp⟩
                · unfold i64; dsimp only; omega
                · unfold i64; dsimp only; omega
                · have hx' : x = (k : Int) % 3 ∨ x = (j : Int) % 3 := by simpa using hx
                  unfold i64
                  omega) rfl rfl HP.out.1 HP.out.2.1
              exact ⟨k + 1, _, by omega, by go_num, by rw [List.length_append, HR.out.1]; rfl, hpush, (HR.out.2.2.1.trans (HA3.out.mono HR.out.2.2.1.size)).trans (HP.out.2.1.below (Nat.le_trans HR.out.2.2.1.size HA3.out.size) (fun i hi e => by have := HR.out.2.2.2 i e; omega)), fun i hi => by
                rcases HP.out.2.2 i hi with h | h
                · exact HR.out.2.2.2 i h
                · exact Nat.le_trans (Nat.le_trans HR.out.2.2.1.size HA3.out.size) h⟩
            case measure => simp [intOf]; omega
          · have hA3 := ((((ext_refl wr).alloc (Nat.le_refl _) (.cells #[.int .i64 6, .int .i64 7, .int .i64 3, .int .i64 (5 - (j : Int) % 2 * 3)] 3)).alloc (by simp) (.cells #[.int .i64 ((k : Int) % 3), .int .i64 ((j : Int) % 3)] 3)).alloc (by simp; omega) (.cells #[.int .i64 3, .int .i64 (((j : Int) + (k : Int)) % 3), .int .i64 ((j : Int) % 2), .slice (some ⟨wr.heap.size + 1, 0, none⟩) 2 2] 55))
            have HA3 := Lib.hid hA3
            clear hA3
            go_wp2_with (first
              | (at_builtin; refine wpList_app rfl (.tmp 20) (.tmp 41) 48 rfl 55 i0 _ 4 48 Try.underlying48 hi hz0 hz1 hz2 rfl (by decide) (.slice Al es.length cl) es.length (es.flatMap dCells) rfl (HR.out.2.1.ext HA3.out).1 _ 1 1 [.int .i64 3, .int .i64 (((j : Int) + (k : Int)) % 3), .int .i64 ((j : Int) % 2), .slice (some ⟨wr.heap.size + 1, 0, none⟩) 2 2] rfl rfl (by simp) (cells_newA _ _ _ _ (by simp)) (by simp [Value.oneCell']) (by unfold maxLen; omega) (by omega) ?_
                 intro A2 c2 w2 hrow2 hu2 hv2 hz2'
                 have HP := Lib.hid (And.intro hrow2 (And.intro hu2 hv2))
                 clear hrow2 hu2 hv2 hz2'))
            go_roundw
            case rel =>
              have hlit : RowI ((((wr.alloc (.cells #[.int .i64 6, .int .i64 7, .int .i64 3, .int .i64 (5 - (j : Int) % 2 * 3)] 3)).alloc (.cells #[.int .i64 ((k : Int) % 3), .int .i64 ((j : Int) % 3)] 3)).alloc (.cells #[.int .i64 3, .int .i64 (((j : Int) + (k : Int)) % 3), .int .i64 ((j : Int) % 2), .slice (some ⟨wr.heap.size + 1, 0, none⟩) 2 2] 55))) (.slice (some ⟨wr.heap.size + 1, 0, none⟩) 2 2) [(k : Int) % 3, (j : Int) % 3] := by
                refine ⟨?_, fun h => by cases h⟩
                have h1 := World.ownsRow_lit (base := 0) (e := 3) (size := 1) (wr.alloc (.cells #[.int .i64 6, .int .i64 7, .int .i64 3, .int .i64 (5 - (j : Int) % 2 * 3)] 3)) #[.int .i64 ((k : Int) % 3), .int .i64 ((j : Int) % 3)] 2 (Nat.zero_le _) (by unfold maxLen; omega) rfl
                have h2 := h1.alloc (.cells #[.int .i64 3, .int .i64 (((j : Int) + (k : Int)) % 3), .int .i64 ((j : Int) % 2), .slice (some ⟨wr.heap.size + 1, 0, none⟩) 2 2] 55)
                simpa using h2
              have hpush := (HR.out.2.1.ext HA3.out).push (news := [(⟨3, ((j : Int) + (k : Int)) % 3, (j : Int) % 2, [(k : Int) % 3, (j : Int) % 3]⟩, .slice (some ⟨wr.heap.size + 1, 0, none⟩) 2 2)]) (fun e he => by
                obtain rfl := List.mem_singleton.1 he
                refine ⟨hlit, ?_, ?_, fun x hx => ?_, by simp⟩
                · unfold i64; dsimp only; omega
                · unfold i64; dsimp only; omega
                · have hx' : x = (k : Int) % 3 ∨ x = (j : Int) % 3 := by simpa using hx
                  unfold i64
                  omega) rfl rfl HP.out.1 HP.out.2.1
              exact ⟨k + 1, _, by omega, by go_num, by rw [List.length_append, HR.out.1]; rfl, hpush, (HR.out.2.2.1.trans (HA3.out.mono HR.out.2.2.1.size)).trans (HP.out.2.1.below (Nat.le_trans HR.out.2.2.1.size HA3.out.size) (fun i hi e => by have := HR.out.2.2.2 i e; omega)), fun i hi => by
                rcases HP.out.2.2 i hi with h | h
                · exact HR.out.2.2.2 i h
                · exact Nat.le_trans (Nat.le_trans HR.out.2.2.1.size HA3.out.size) h⟩
            case measure => simp [intOf]; omega
          · have hA3 := ((((ext_refl wr).alloc (Nat.le_refl _) (.cells #[.int .i64 6, .int .i64 7, .int .i64 3, .int .i64 (5 - (j : Int) % 2 * 3)] 3)).alloc (by simp) (.cells #[.int .i64 ((k : Int) % 3), .int .i64 ((j : Int) % 3)] 3)).alloc (by simp; omega) (.cells #[.int .i64 (5 - (j : Int) % 2 * 3), .int .i64 (((j : Int) + (k : Int)) % 3), .int .i64 ((j : Int) % 2), .slice (some ⟨wr.heap.size + 1, 0, none⟩) 2 2] 55))
            have HA3 := Lib.hid hA3
            clear hA3
            go_wp2_with (first
              | (at_builtin; refine wpList_app rfl (.tmp 20) (.tmp 41) 48 rfl 55 i0 _ 4 48 Try.underlying48 hi hz0 hz1 hz2 rfl (by decide) (.slice Al es.length cl) es.length (es.flatMap dCells) rfl (HR.out.2.1.ext HA3.out).1 _ 1 1 [.int .i64 (5 - (j : Int) % 2 * 3), .int .i64 (((j : Int) + (k : Int)) % 3), .int .i64 ((j : Int) % 2), .slice (some ⟨wr.heap.size + 1, 0, none⟩) 2 2] rfl rfl (by simp) (cells_newA _ _ _ _ (by simp)) (by simp [Value.oneCell']) (by unfold maxLen; omega) (by omega) ?_
                 intro A2 c2 w2 hrow2 hu2 hv2 hz2'
                 have HP := Lib.hid (And.intro hrow2 (And.intro hu2 hv2))
                 clear hrow2 hu2 hv2 hz2'))
            go_roundw
            case rel =>
              have hlit : RowI ((((wr.alloc (.cells #[.int .i64 6, .int .i64 7, .int .i64 3, .int .i64 (5 - (j : Int) % 2 * 3)] 3)).alloc (.cells #[.int .i64 ((k : Int) % 3), .int .i64 ((j : Int) % 3)] 3)).alloc (.cells #[.int .i64 (5 - (j : Int) % 2 * 3), .int .i64 (((j : Int) + (k : Int)) % 3), .int .i64 ((j : Int) % 2), .slice (some ⟨wr.heap.size + 1, 0, none⟩) 2 2] 55))) (.slice (some ⟨wr.heap.size + 1, 0, none⟩) 2 2) [(k : Int) % 3, (j : Int) % 3] := by
                refine ⟨?_, fun h => by cases h⟩
                have h1 := World.ownsRow_lit (base := 0) (e := 3) (size := 1) (wr.alloc (.cells #[.int .i64 6, .int .i64 7, .int .i64 3, .int .i64 (5 - (j : Int) % 2 * 3)] 3)) #[.int .i64 ((k : Int) % 3), .int .i64 ((j : Int) % 3)] 2 (Nat.zero_le _) (by unfold maxLen; omega) rfl
                have h2 := h1.alloc (.cells #[.int .i64 (5 - (j : Int) % 2 * 3), .int .i64 (((j : Int) + (k : Int)) % 3), .int .i64 ((j : Int) % 2), .slice (some ⟨wr.heap.size + 1, 0, none⟩) 2 2] 55)
                simpa using h2
              have hpush := (HR.out.2.1.ext HA3.out).push (news := [(⟨(5 - (j : Int) % 2 * 3), ((j : Int) + (k : Int)) % 3, (j : Int) % 2, [(k : Int) % 3, (j : Int) % 3]⟩, .slice (some ⟨wr.heap.size + 1, 0, none⟩) 2 2)]) (fun e he => by
                obtain rfl := List.mem_singleton.1 he
                refine ⟨hlit, ?_, ?_, fun x hx => ?_, by simp⟩
                · unfold i64; dsimp only; omega
                · unfold i64; dsimp only; omega
                · have hx' : x = (k : Int) % 3 ∨ x = (j : Int) % 3 := by simpa using hx
                  unfold i64
                  omega) rfl rfl HP.out.1 HP.out.2.1
              exact ⟨k + 1, _, by omega, by go_num, by rw [List.length_append, HR.out.1]; rfl, hpush, (HR.out.2.2.1.trans (HA3.out.mono HR.out.2.2.1.size)).trans (HP.out.2.1.below (Nat.le_trans HR.out.2.2.1.size HA3.out.size) (fun i hi e => by have := HR.out.2.2.2 i e; omega)), fun i hi => by
                rcases HP.out.2.2 i hi with h | h
                · exact HR.out.2.2.2 i h
                · exact Nat.le_trans (Nat.le_trans HR.out.2.2.1.size HA3.out.size) h⟩
            case measure => simp [intOf]; omega
        · obtain rfl : k = 6 := by omega
          have hA3 := (ext_refl wr).alloc (Nat.le_refl _) (.cells #[.int .i64 4, .int .i64 1, .int .i64 ((j : Int) % 2), .slice none 0 0, .int .i64 3, .int .i64 0, .int .i64 0, .slice none 0 0, .int .i64 3, .int .i64 0, .int .i64 0, .slice none 0 0, .int .i64 3, .int .i64 0, .int .i64 0, .slice none 0 0] 55)
          have HA3 := Lib.hid hA3
          clear hA3
          go_wp2_with (first
            | (at_builtin; refine wpList_app rfl (.tmp 43) (.tmp 50) 48 rfl 55 i0 _ 4 48 Try.underlying48 hi hz0 hz1 hz2 rfl (by decide) (.slice Al es.length cl) es.length (es.flatMap dCells) rfl (HR.out.2.1.ext HA3.out).1 _ 4 4 [.int .i64 4, .int .i64 1, .int .i64 ((j : Int) % 2), .slice none 0 0, .int .i64 3, .int .i64 0, .int .i64 0, .slice none 0 0, .int .i64 3, .int .i64 0, .int .i64 0, .slice none 0 0, .int .i64 3, .int .i64 0, .int .i64 0, .slice none 0 0] rfl rfl (by simp) (cells_newA _ _ _ _ (by simp)) (by simp [Value.oneCell']) (by unfold maxLen; omega) (by omega) ?_
               intro A2 c2 w2 hrow2 hu2 hv2 hz2'
               have hpush := (HR.out.2.1.ext HA3.out).push (news := [(⟨4, 1, (j : Int) % 2, []⟩, .slice none 0 0), (⟨3, 0, 0, []⟩, .slice none 0 0), (⟨3, 0, 0, []⟩, .slice none 0 0), (⟨3, 0, 0, []⟩, .slice none 0 0)]) (fun e he => by
                 have h4 : i64 ((j : Int) % 2) ∧ i64 0 ∧ i64 1 := by unfold i64; omega
                 have he' : e = (⟨4, 1, (j : Int) % 2, []⟩, .slice none 0 0) ∨ e = (⟨3, 0, 0, []⟩, .slice none 0 0) := by simpa using he
                 rcases he' with rfl | rfl
                 · exact ⟨RowI.nil _, h4.2.2, h4.1, fun x hx => (by cases hx), by simp⟩
                 · exact ⟨RowI.nil _, h4.2.1, h4.2.1, fun x hx => (by cases hx), by simp⟩) rfl rfl hrow2 hu2
               have hb2 := (HR.out.2.2.1.trans (HA3.out.mono HR.out.2.2.1.size)).trans (hu2.below (Nat.le_trans HR.out.2.2.1.size HA3.out.size) (fun i hi e => by have := HR.out.2.2.2 i e; omega))
               have HP := Lib.hid (And.intro (hpush.deeds (by simp; omega)) hb2)
               clear hrow2 hu2 hv2 hz2' hpush hb2)
            | (go_at_call 6; refine (HDO.out _ _ _ HP.out.1).mono ?_; rintro e w3 ⟨rfl, hb3⟩))
          go_roundw
          case rel => exact ⟨j + 1, by omega, by go_num, HP.out.2.trans (hb3.mono HP.out.2.size)⟩
          case measure => simp [intOf]; omega
    · have hjl : ¬ ((j : Int) < 4096) := by omega
      go_wp2
      have hE : Blk (wr.alloc (.cells #[.int .i64 (-9223372036854775808), .int .i64 (-1), .int .i64 0, .int .i64 9223372036854775807] 3)) wr.heap.size _ _ := Blk.new wr _ _
      have hb5 := HBR.out.trans (((ext_refl wr).alloc (Nat.le_refl _) (.cells #[.int .i64 (-9223372036854775808), .int .i64 (-1), .int .i64 0, .int .i64 9223372036854775807] 3)).mono HBR.out.size)
      generalize hw5 : wr.alloc (.cells #[.int .i64 (-9223372036854775808), .int .i64 (-1), .int .i64 0, .int .i64 9223372036854775807] 3) = w5 at *
      generalize wr.heap.size = ge at *
      have H5 := Lib.hid (And.intro hE hb5)
      clear hE hb5 hw5
      go_loopw [6] (fun iv wr => ∃ i : Nat, i ≤ 4 ∧ iv = .int .i64 i ∧ Below w5.heap.size w5 wr) (fun iv _ => 4 - (intOf iv).toNat)
      case atStart => exact ⟨0, by omega, rfl, ext_refl _⟩
      case round =>
        obtain ⟨i, hi4, rfl, hbr⟩ := hrel
        have HB5 := Lib.hid hbr
        by_cases hlti : i < 4
        · have hil : (i : Int) < 4 := by omega
          have hge := H5.out.1.ext hbr
          have hgl := hge.lt
          obtain ⟨i', hi'⟩ : ∃ i', i' = 3 - i := ⟨_, rfl⟩
          have hi4' : i' < 4 := by omega
          have hil' : (i' : Int) < 4 := by omega
          have he3 : (3 : Int) - (i : Int) = (i' : Int) := by omega
          have hw64 : wrap64 (i' : Int) = (i' : Int) := IntWalk.wrap64_in _ (by omega)
          have hwr : IntKind.i64.wrap (i' : Int) = (i' : Int) := by rw [IntKind.wrap_i64]; omega
          have hcell : ∀ n, n < 4 → ∃ y, wr.cell? ⟨ge, n, none⟩ = some (.int .i64 y) ∧ i64 y := by
            intro n hn
            have h := hge.cell n
            have hn' : n = 0 ∨ n = 1 ∨ n = 2 ∨ n = 3 := by omega
            rcases hn' with rfl | rfl | rfl | rfl
            · exact ⟨_, h, by unfold i64; omega⟩
            · exact ⟨_, h, by unfold i64; omega⟩
            · exact ⟨_, h, by unfold i64; omega⟩
            · exact ⟨_, h, by unfold i64; omega⟩
          obtain ⟨a, s0, ha⟩ := hcell i hlti
          obtain ⟨b, s1, hb⟩ := hcell i' hi4'
          have HG := Lib.hid (And.intro hge (And.intro ha hb))
          clear hcell hge hbr ha hb hi'
          go_wp2
          refine AtE.start (S := fun w' => w'.cell? ⟨ge, i, none⟩ = some (.int .i64 a) ∧ w'.cell? ⟨ge, i', none⟩ = some (.int .i64 b)) 46 (by kernel_rfl) (by kernel_rfl) (by exact ⟨by simpa using s0, by simpa using s1⟩) (fun hHeld => ?_)
          refine AtE.take (i := 0) (v := ?_) rfl (by kernel_rfl) (by kernel_rfl) (by kernel_rfl) (fun _ _ _ h => h) (by decide) (Or.inl ⟨by rfl, ?_⟩) hHeld ?_
          rotate_left
          · intro w hSw; go_simp; try (with_reducible rfl)
          simp only [Act.put, List.setIfInBounds_toArray, List.set_cons_zero, List.set_cons_succ]
          refine AtE.take (i := 1) (v := ?_) rfl (by kernel_rfl) (by kernel_rfl) (by kernel_rfl) (fun _ _ _ h => h) (by decide) (Or.inl ⟨by rfl, ?_⟩) hHeld ?_
          rotate_left
          · intro w hSw; go_simp; try (with_reducible rfl)
          simp only [Act.put, List.setIfInBounds_toArray, List.set_cons_zero, List.set_cons_succ]
          refine AtE.take (i := 2) (v := ?_) rfl (by kernel_rfl) (by kernel_rfl) (by kernel_rfl) (fun _ _ _ h => h) (by decide) (Or.inl ⟨by rfl, ?_⟩) hHeld ?_
          rotate_left
          · intro w hSw; go_simp; try (with_reducible rfl)
          simp only [Act.put, List.setIfInBounds_toArray, List.set_cons_zero, List.set_cons_succ]
          refine AtE.take (i := 3) (v := ?_) rfl (by kernel_rfl) (by kernel_rfl) (by kernel_rfl) (fun _ _ _ h => h) (by decide) (Or.inl ⟨by rfl, ?_⟩) hHeld ?_
          rotate_left
          · intro w hSw; go_simp; try (with_reducible rfl)
          simp only [Act.put, List.setIfInBounds_toArray, List.set_cons_zero, List.set_cons_succ]
          refine AtE.take (i := 4) (v := ?_) rfl (by kernel_rfl) (by kernel_rfl) (by kernel_rfl) (fun _ _ _ h => h) (by decide) (Or.inl ⟨by rfl, ?_⟩) hHeld ?_
          rotate_left
          · intro w hSw; go_simp; try (with_reducible rfl)
          simp only [Act.put, List.setIfInBounds_toArray, List.set_cons_zero, List.set_cons_succ]
          refine AtE.take (i := 5) (v := ?_) rfl (by kernel_rfl) (by kernel_rfl) (by kernel_rfl) (fun _ _ _ h => h) (by decide) (Or.inl ⟨by rfl, ?_⟩) hHeld ?_
          rotate_left
          · intro w hSw; go_simp; try (with_reducible rfl)
          simp only [Act.put, List.setIfInBounds_toArray, List.set_cons_zero, List.set_cons_succ]
          refine AtE.take (i := 6) (v := ?_) rfl (by kernel_rfl) (by kernel_rfl) (by kernel_rfl) (fun _ _ _ h => h) (by decide) (Or.inl ⟨by rfl, ?_⟩) hHeld ?_
          rotate_left
          · intro w hSw; go_simp; try (with_reducible rfl)
          simp only [Act.put, List.setIfInBounds_toArray, List.set_cons_zero, List.set_cons_succ]
          refine AtE.take (i := 7) (v := ?_) rfl (by kernel_rfl) (by kernel_rfl) (by kernel_rfl) (fun _ _ _ h => h) (by decide) (Or.inl ⟨by rfl, ?_⟩) hHeld ?_
          rotate_left
          · intro w hSw; go_simp; try (with_reducible rfl)
          simp only [Act.put, List.setIfInBounds_toArray, List.set_cons_zero, List.set_cons_succ]
          refine AtE.take (i := 8) (v := ?_) rfl (by kernel_rfl) (by kernel_rfl) (by kernel_rfl) (fun _ _ _ h => h) (by decide) (Or.inl ⟨by rfl, ?_⟩) hHeld ?_
          rotate_left
          · intro w hSw; go_simp; try (with_reducible rfl)
          simp only [Act.put, List.setIfInBounds_toArray, List.set_cons_zero, List.set_cons_succ]
          refine AtE.take (i := 9) (v := ?_) rfl (by kernel_rfl) (by kernel_rfl) (by kernel_rfl) (fun _ _ _ h => h) (by decide) (Or.inl ⟨by rfl, ?_⟩) hHeld ?_
          rotate_left
          · intro w hSw; go_simp; try (with_reducible rfl)
          simp only [Act.put, List.setIfInBounds_toArray, List.set_cons_zero, List.set_cons_succ]
          refine AtE.take (i := 10) (v := ?_) rfl (by kernel_rfl) (by kernel_rfl) (by kernel_rfl) (fun _ _ _ h => h) (by decide) (Or.inl ⟨by rfl, ?_⟩) hHeld ?_
          rotate_left
          · intro w hSw; go_simp; try (with_reducible rfl)
          simp only [Act.put, List.setIfInBounds_toArray, List.set_cons_zero, List.set_cons_succ]
          refine AtE.take (i := 11) (v := ?_) rfl (by kernel_rfl) (by kernel_rfl) (by kernel_rfl) (fun _ _ _ h => h) (by decide) (Or.inl ⟨by rfl, ?_⟩) hHeld ?_
          rotate_left
          · intro w hSw; go_simp; try (with_reducible rfl)
          simp only [Act.put, List.setIfInBounds_toArray, List.set_cons_zero, List.set_cons_succ]
          refine AtE.take (i := 12) (v := ?_) rfl (by kernel_rfl) (by kernel_rfl) (by kernel_rfl) (fun _ _ _ h => h) (by decide) (Or.inl ⟨by rfl, ?_⟩) hHeld ?_
          rotate_left
          · intro w hSw; go_simp; try (with_reducible rfl)
          simp only [Act.put, List.setIfInBounds_toArray, List.set_cons_zero, List.set_cons_succ]
          refine AtE.take (i := 13) (v := ?_) rfl (by kernel_rfl) (by kernel_rfl) (by kernel_rfl) (fun _ _ _ h => h) (by decide) (Or.inl ⟨by rfl, ?_⟩) hHeld ?_
          rotate_left
          · intro w hSw; go_simp; try (with_reducible rfl)
          simp only [Act.put, List.setIfInBounds_toArray, List.set_cons_zero, List.set_cons_succ]
          refine AtE.take (i := 14) (v := ?_) rfl (by kernel_rfl) (by kernel_rfl) (by kernel_rfl) (fun _ _ _ h => h) (by decide) (Or.inl ⟨by rfl, ?_⟩) hHeld ?_
          rotate_left
          · intro w hSw; go_simp; try (with_reducible rfl)
          simp only [Act.put, List.setIfInBounds_toArray, List.set_cons_zero, List.set_cons_succ]
          refine AtE.take (i := 15) (v := ?_) rfl (by kernel_rfl) (by kernel_rfl) (by kernel_rfl) (fun _ _ _ h => h) (by decide) (Or.inl ⟨by rfl, ?_⟩) hHeld ?_
          rotate_left
          · intro w hSw; go_simp; try (with_reducible rfl)
          simp only [Act.put, List.setIfInBounds_toArray, List.set_cons_zero, List.set_cons_succ]
          refine AtE.take (i := 16) (v := ?_) rfl (by kernel_rfl) (by kernel_rfl) (by kernel_rfl) (fun _ _ _ h => h) (by decide) (Or.inl ⟨by rfl, ?_⟩) hHeld ?_
          rotate_left
          · intro w hSw; go_simp; try (with_reducible rfl)
          simp only [Act.put, List.setIfInBounds_toArray, List.set_cons_zero, List.set_cons_succ]
          refine AtE.take (i := 17) (v := ?_) rfl (by kernel_rfl) (by kernel_rfl) (by kernel_rfl) (fun _ _ _ h => h) (by decide) (Or.inl ⟨by rfl, ?_⟩) hHeld ?_
          rotate_left
          · intro w hSw; go_simp; try (with_reducible rfl)
          simp only [Act.put, List.setIfInBounds_toArray, List.set_cons_zero, List.set_cons_succ]
          refine AtE.take (i := 18) (v := ?_) rfl (by kernel_rfl) (by kernel_rfl) (by kernel_rfl) (fun _ _ _ h => h) (by decide) (Or.inl ⟨by rfl, ?_⟩) hHeld ?_
          rotate_left
          · intro w hSw; go_simp; try (with_reducible rfl)
          simp only [Act.put, List.setIfInBounds_toArray, List.set_cons_zero, List.set_cons_succ]
          refine AtE.take (i := 19) (v := ?_) rfl (by kernel_rfl) (by kernel_rfl) (by kernel_rfl) (fun _ _ _ h => h) (by decide) (Or.inl ⟨by rfl, ?_⟩) hHeld ?_
          rotate_left
          · intro w hSw; go_simp; try (with_reducible rfl)
          simp only [Act.put, List.setIfInBounds_toArray, List.set_cons_zero, List.set_cons_succ]
          refine AtE.take (i := 20) (v := ?_) rfl (by kernel_rfl) (by kernel_rfl) (by kernel_rfl) (fun _ _ _ h => h) (by decide) (Or.inl ⟨by rfl, ?_⟩) hHeld ?_
          rotate_left
          · intro w hSw; go_simp; try (with_reducible rfl)
          simp only [Act.put, List.setIfInBounds_toArray, List.set_cons_zero, List.set_cons_succ]
          refine AtE.take (i := 21) (v := ?_) rfl (by kernel_rfl) (by kernel_rfl) (by kernel_rfl) (fun _ _ _ h => h) (by decide) (Or.inl ⟨by rfl, ?_⟩) hHeld ?_
          rotate_left
          · intro w hSw; go_simp; try (with_reducible rfl)
          simp only [Act.put, List.setIfInBounds_toArray, List.set_cons_zero, List.set_cons_succ]
          refine AtE.take (i := 22) (v := ?_) rfl (by kernel_rfl) (by kernel_rfl) (by kernel_rfl) (fun _ _ _ h => h) (by decide) (Or.inl ⟨by rfl, ?_⟩) hHeld ?_
          rotate_left
          · intro w hSw; go_simp; try (with_reducible rfl)
          simp only [Act.put, List.setIfInBounds_toArray, List.set_cons_zero, List.set_cons_succ]
          refine AtE.take (i := 23) (v := ?_) rfl (by kernel_rfl) (by kernel_rfl) (by kernel_rfl) (fun _ _ _ h => h) (by decide) (Or.inl ⟨by rfl, ?_⟩) hHeld ?_
          rotate_left
          · intro w hSw; go_simp; try (with_reducible rfl)
          simp only [Act.put, List.setIfInBounds_toArray, List.set_cons_zero, List.set_cons_succ]
          refine AtE.take (i := 24) (v := ?_) rfl (by kernel_rfl) (by kernel_rfl) (by kernel_rfl) (fun _ _ _ h => h) (by decide) (Or.inl ⟨by rfl, ?_⟩) hHeld ?_
          rotate_left
          · intro w hSw; go_simp; try (with_reducible rfl)
          simp only [Act.put, List.setIfInBounds_toArray, List.set_cons_zero, List.set_cons_succ]
          refine AtE.take (i := 25) (v := ?_) rfl (by kernel_rfl) (by kernel_rfl) (by kernel_rfl) (fun _ _ _ h => h) (by decide) (Or.inl ⟨by rfl, ?_⟩) hHeld ?_
          rotate_left
          · intro w hSw; go_simp; try (with_reducible rfl)
          simp only [Act.put, List.setIfInBounds_toArray, List.set_cons_zero, List.set_cons_succ]
          refine AtE.take (i := 26) (v := ?_) rfl (by kernel_rfl) (by kernel_rfl) (by kernel_rfl) (fun _ _ _ h => h) (by decide) (Or.inl ⟨by rfl, ?_⟩) hHeld ?_
          rotate_left
          · intro w hSw; go_simp; try (with_reducible rfl)
          simp only [Act.put, List.setIfInBounds_toArray, List.set_cons_zero, List.set_cons_succ]
          refine AtE.take (i := 27) (v := ?_) rfl (by kernel_rfl) (by kernel_rfl) (by kernel_rfl) (fun _ _ _ h => h) (by decide) (Or.inl ⟨by rfl, ?_⟩) hHeld ?_
          rotate_left
          · intro w hSw; go_simp; try (with_reducible rfl)
          simp only [Act.put, List.setIfInBounds_toArray, List.set_cons_zero, List.set_cons_succ]
          refine AtE.take (i := 28) (v := ?_) rfl (by kernel_rfl) (by kernel_rfl) (by kernel_rfl) (fun _ _ _ h => h) (by decide) (Or.inl ⟨by rfl, ?_⟩) hHeld ?_
          rotate_left
          · intro w hSw; go_simp; try (with_reducible rfl)
          simp only [Act.put, List.setIfInBounds_toArray, List.set_cons_zero, List.set_cons_succ]
          refine AtE.take (i := 29) (v := ?_) rfl (by kernel_rfl) (by kernel_rfl) (by kernel_rfl) (fun _ _ _ h => h) (by decide) (Or.inl ⟨by rfl, ?_⟩) hHeld ?_
          rotate_left
          · intro w hSw; go_simp; try (with_reducible rfl)
          simp only [Act.put, List.setIfInBounds_toArray, List.set_cons_zero, List.set_cons_succ]
          refine AtE.take (i := 30) (v := ?_) rfl (by kernel_rfl) (by kernel_rfl) (by kernel_rfl) (fun _ _ _ h => h) (by decide) (Or.inl ⟨by rfl, ?_⟩) hHeld ?_
          rotate_left
          · intro w hSw; go_simp; try (with_reducible rfl)
          simp only [Act.put, List.setIfInBounds_toArray, List.set_cons_zero, List.set_cons_succ]
          refine AtE.take (i := 31) (v := ?_) rfl (by kernel_rfl) (by kernel_rfl) (by kernel_rfl) (fun _ _ _ h => h) (by decide) (Or.inl ⟨by rfl, ?_⟩) hHeld ?_
          rotate_left
          · intro w hSw; go_simp; try (with_reducible rfl)
          simp only [Act.put, List.setIfInBounds_toArray, List.set_cons_zero, List.set_cons_succ]
          refine AtE.take (i := 32) (v := ?_) rfl (by kernel_rfl) (by kernel_rfl) (by kernel_rfl) (fun _ _ _ h => h) (by decide) (Or.inl ⟨by rfl, ?_⟩) hHeld ?_
          rotate_left
          · intro w hSw; go_simp; try (with_reducible rfl)
          simp only [Act.put, List.setIfInBounds_toArray, List.set_cons_zero, List.set_cons_succ]
          refine AtE.take (i := 33) (v := ?_) rfl (by kernel_rfl) (by kernel_rfl) (by kernel_rfl) (fun _ _ _ h => h) (by decide) (Or.inl ⟨by rfl, ?_⟩) hHeld ?_
          rotate_left
          · intro w hSw; go_simp; try (with_reducible rfl)
          simp only [Act.put, List.setIfInBounds_toArray, List.set_cons_zero, List.set_cons_succ]
          refine AtE.take (i := 34) (v := ?_) rfl (by kernel_rfl) (by kernel_rfl) (by kernel_rfl) (fun _ _ _ h => h) (by decide) (Or.inl ⟨by rfl, ?_⟩) hHeld ?_
          rotate_left
          · intro w hSw; go_simp; try (with_reducible rfl)
          simp only [Act.put, List.setIfInBounds_toArray, List.set_cons_zero, List.set_cons_succ]
          refine AtE.take (i := 35) (v := ?_) rfl (by kernel_rfl) (by kernel_rfl) (by kernel_rfl) (fun _ _ _ h => h) (by decide) (Or.inl ⟨by rfl, ?_⟩) hHeld ?_
          rotate_left
          · intro w hSw; go_simp; try (with_reducible rfl)
          simp only [Act.put, List.setIfInBounds_toArray, List.set_cons_zero, List.set_cons_succ]
          refine AtE.take (i := 36) (v := ?_) rfl (by kernel_rfl) (by kernel_rfl) (by kernel_rfl) (fun _ _ _ h => h) (by decide) (Or.inl ⟨by rfl, ?_⟩) hHeld ?_
          rotate_left
          · intro w hSw; go_simp; try (with_reducible rfl)
          simp only [Act.put, List.setIfInBounds_toArray, List.set_cons_zero, List.set_cons_succ]
          refine AtE.take (i := 37) (v := ?_) rfl (by kernel_rfl) (by kernel_rfl) (by kernel_rfl) (fun _ _ _ h => h) (by decide) (Or.inl ⟨by rfl, ?_⟩) hHeld ?_
          rotate_left
          · intro w hSw; go_simp; try (with_reducible rfl)
          simp only [Act.put, List.setIfInBounds_toArray, List.set_cons_zero, List.set_cons_succ]
          refine AtE.take (i := 38) (v := ?_) rfl (by kernel_rfl) (by kernel_rfl) (by kernel_rfl) (fun _ _ _ h => h) (by decide) (Or.inl ⟨by rfl, ?_⟩) hHeld ?_
          rotate_left
          · intro w hSw; go_simp; try (with_reducible rfl)
          simp only [Act.put, List.setIfInBounds_toArray, List.set_cons_zero, List.set_cons_succ]
          refine AtE.take (i := 39) (v := ?_) rfl (by kernel_rfl) (by kernel_rfl) (by kernel_rfl) (fun _ _ _ h => h) (by decide) (Or.inl ⟨by rfl, ?_⟩) hHeld ?_
          rotate_left
          · intro w hSw; go_simp; try (with_reducible rfl)
          simp only [Act.put, List.setIfInBounds_toArray, List.set_cons_zero, List.set_cons_succ]
          refine AtE.take (i := 40) (v := ?_) rfl (by kernel_rfl) (by kernel_rfl) (by kernel_rfl) (fun _ _ _ h => h) (by decide) (Or.inl ⟨by rfl, ?_⟩) hHeld ?_
          rotate_left
          · intro w hSw; go_simp; try (with_reducible rfl)
          simp only [Act.put, List.setIfInBounds_toArray, List.set_cons_zero, List.set_cons_succ]
          refine AtE.take (i := 41) (v := ?_) rfl (by kernel_rfl) (by kernel_rfl) (by kernel_rfl) (fun _ _ _ h => h) (by decide) (Or.inl ⟨by rfl, ?_⟩) hHeld ?_
          rotate_left
          · intro w hSw; go_simp; try (with_reducible rfl)
          simp only [Act.put, List.setIfInBounds_toArray, List.set_cons_zero, List.set_cons_succ]
          refine AtE.take (i := 42) (v := ?_) rfl (by kernel_rfl) (by kernel_rfl) (by kernel_rfl) (fun _ _ _ h => h) (by decide) (Or.inl ⟨by rfl, ?_⟩) hHeld ?_
          rotate_left
          · intro w hSw; go_simp; try (with_reducible rfl)
          simp only [Act.put, List.setIfInBounds_toArray, List.set_cons_zero, List.set_cons_succ]
          refine AtE.take (i := 43) (v := ?_) rfl (by kernel_rfl) (by kernel_rfl) (by kernel_rfl) (fun _ _ _ h => h) (by decide) (Or.inl ⟨by rfl, ?_⟩) hHeld ?_
          rotate_left
          · intro w hSw; go_simp; try (with_reducible rfl)
          simp only [Act.put, List.setIfInBounds_toArray, List.set_cons_zero, List.set_cons_succ]
          refine AtE.one (i := 44) rfl (by kernel_rfl) (fun K hK => ?_)
          go_simp
          have hA := ((ext_refl wr).alloc (Nat.le_refl _) (.cells #[.int .i64 0, .int .i64 a, .int .i64 b, .slice none 0 0, .int .i64 0, .int .i64 b, .int .i64 a, .slice none 0 0, .int .i64 7, .int .i64 a, .int .i64 0, .slice none 0 0, .int .i64 1, .int .i64 a, .int .i64 b, .slice none 0 0, .int .i64 2, .int .i64 0, .int .i64 a, .slice (some ⟨ge, 0, none⟩) 4 4, .int .i64 3, .int .i64 0, .int .i64 0, .slice none 0 0, .int .i64 3, .int .i64 0, .int .i64 0, .slice none 0 0, .int .i64 3, .int .i64 0, .int .i64 0, .slice none 0 0] 55)).drew
          refine hK.out _ _ (fun _ => ⟨(hA.cell (p := ⟨ge, i, none⟩) hgl).trans s0, (hA.cell (p := ⟨ge, i', none⟩) hgl).trans s1⟩) (fun hHeld' => ?_)
          have hHeld := hHeld' (by decide)
          have HAA := Lib.hid hA
          clear hK K hHeld' hA
          refine AtE.one (i := 45) rfl (by kernel_rfl) (fun K hK => ?_)
          go_simp
          have hends : RowI (wr.alloc (.cells #[.int .i64 0, .int .i64 a, .int .i64 b, .slice none 0 0, .int .i64 0, .int .i64 b, .int .i64 a, .slice none 0 0, .int .i64 7, .int .i64 a, .int .i64 0, .slice none 0 0, .int .i64 1, .int .i64 a, .int .i64 b, .slice none 0 0, .int .i64 2, .int .i64 0, .int .i64 a, .slice (some ⟨ge, 0, none⟩) 4 4, .int .i64 3, .int .i64 0, .int .i64 0, .slice none 0 0, .int .i64 3, .int .i64 0, .int .i64 0, .slice none 0 0, .int .i64 3, .int .i64 0, .int .i64 0, .slice none 0 0] 55)).drew (.slice (some ⟨ge, 0, none⟩) 4 4) [-9223372036854775808, -1, 0, 9223372036854775807] := ⟨⟨rfl, .inr ⟨ge, 4, _, rfl, Nat.zero_le _, HG.out.1.ext HAA.out, Nat.le_refl _, by decide, rfl, rfl⟩⟩, fun h => by cases h⟩
          have hrow : DRow (wr.alloc (.cells #[.int .i64 0, .int .i64 a, .int .i64 b, .slice none 0 0, .int .i64 0, .int .i64 b, .int .i64 a, .slice none 0 0, .int .i64 7, .int .i64 a, .int .i64 0, .slice none 0 0, .int .i64 1, .int .i64 a, .int .i64 b, .slice none 0 0, .int .i64 2, .int .i64 0, .int .i64 a, .slice (some ⟨ge, 0, none⟩) 4 4, .int .i64 3, .int .i64 0, .int .i64 0, .slice none 0 0, .int .i64 3, .int .i64 0, .int .i64 0, .slice none 0 0, .int .i64 3, .int .i64 0, .int .i64 0, .slice none 0 0] 55)).drew (.slice (some ⟨wr.heap.size, 0, none⟩) 8 8) [(⟨0, a, b, []⟩, .slice none 0 0), (⟨0, b, a, []⟩, .slice none 0 0), (⟨7, a, 0, []⟩, .slice none 0 0), (⟨1, a, b, []⟩, .slice none 0 0), (⟨2, 0, a, [-9223372036854775808, -1, 0, 9223372036854775807]⟩, .slice (some ⟨ge, 0, none⟩) 4 4), (⟨3, 0, 0, []⟩, .slice none 0 0), (⟨3, 0, 0, []⟩, .slice none 0 0), (⟨3, 0, 0, []⟩, .slice none 0 0)] := by
            refine ⟨(World.ownsRow_lit (base := 0) (e := 55) (size := 4) wr #[.int .i64 0, .int .i64 a, .int .i64 b, .slice none 0 0, .int .i64 0, .int .i64 b, .int .i64 a, .slice none 0 0, .int .i64 7, .int .i64 a, .int .i64 0, .slice none 0 0, .int .i64 1, .int .i64 a, .int .i64 b, .slice none 0 0, .int .i64 2, .int .i64 0, .int .i64 a, .slice (some ⟨ge, 0, none⟩) 4 4, .int .i64 3, .int .i64 0, .int .i64 0, .slice none 0 0, .int .i64 3, .int .i64 0, .int .i64 0, .slice none 0 0, .int .i64 3, .int .i64 0, .int .i64 0, .slice none 0 0] 8 (Nat.zero_le _) (by decide) rfl).drew, fun e he => ?_⟩
            have h0 : i64 0 := by unfold i64; omega
            have he' : e = (⟨0, a, b, []⟩, .slice none 0 0) ∨ e = (⟨0, b, a, []⟩, .slice none 0 0) ∨ e = (⟨7, a, 0, []⟩, .slice none 0 0) ∨ e = (⟨1, a, b, []⟩, .slice none 0 0) ∨ e = (⟨2, 0, a, [-9223372036854775808, -1, 0, 9223372036854775807]⟩, .slice (some ⟨ge, 0, none⟩) 4 4) ∨ e = (⟨3, 0, 0, []⟩, .slice none 0 0) := by simpa using he
            rcases he' with rfl | rfl | rfl | rfl | rfl | rfl
            · exact ⟨RowI.nil _, HG.out.2.1, HG.out.2.2, fun x hx => (by cases hx), by simp⟩
            · exact ⟨RowI.nil _, HG.out.2.2, HG.out.2.1, fun x hx => (by cases hx), by simp⟩
            · exact ⟨RowI.nil _, HG.out.2.1, h0, fun x hx => (by cases hx), by simp⟩
            · exact ⟨RowI.nil _, HG.out.2.1, HG.out.2.2, fun x hx => (by cases hx), by simp⟩
            · refine ⟨hends, h0, HG.out.2.1, fun x hx => ?_, by simp⟩
              have hx' : x = -9223372036854775808 ∨ x = -1 ∨ x = 0 ∨ x = 9223372036854775807 := by simpa using hx
              unfold i64
              omega
            · exact ⟨RowI.nil _, h0, h0, fun x hx => (by cases hx), by simp⟩
          refine (HDO.out _ _ _ (hrow.deeds (by simp))).mono ?_
          rintro e w6 ⟨rfl, hb6⟩
          have hq6 := ext_trans HAA.out hb6
          refine hK.out _ _ (fun _ => ⟨(hq6.cell (p := ⟨ge, i, none⟩) hgl).trans s0, (hq6.cell (p := ⟨ge, i', none⟩) hgl).trans s1⟩) (fun hHeld' => ?_)
          have hHeld := hHeld' (by decide)
          have HQ6 := Lib.hid hq6
          clear hK K hHeld' hb6 hq6 hends hrow
          refine AtE.one (i := 46) rfl (by kernel_rfl) (fun K hK => ?_)
          go_simp
          refine hK.out _ _ (fun h => absurd rfl h) (fun _ => ?_)
          clear hK K
          refine AtE.done (by kernel_rfl) ?_
          go_wp2
          go_roundw
          case rel => exact ⟨i + 1, by omega, by go_num, ext_trans HB5.out HQ6.out⟩
          case measure => simp [intOf]; omega
        · obtain rfl : i = 4 := by omega
          have hb0 := H5.out.2.trans (hbr.mono H5.out.2.size)
          go_wp2_with (first
            | (go_at_call 34; refine (HN.out _).mono ?_; rintro e w7 ⟨rfl, hb7⟩)
            | (go_at_call 8; refine (HA.out _).mono ?_; rintro e w8 ⟨rfl, hb8⟩))
          go_ret
          exact ⟨rfl, (hb0.trans (hb7.mono hb0.size)).trans (hb8.mono (Nat.le_trans hb0.size hb7.size))⟩
end Go.Proofs.Ytjmidomcgaijjaa
