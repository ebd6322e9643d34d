/- What was done: the step of using. -/
import Derived.Test.YtjmidomcgaijjaaStep
namespace Go.Proofs.Ytjmidomcgaijjaa
set_option linter.unusedVariables false
open Go.RowKit

set_option maxRecDepth 100000 in
set_option maxHeartbeats 1600000 in
theorem huse_none (q p : Nat) (S : Nat → Prop) (vl vr vt : Value) (H : Hist) (l l' : List Fr) (k what rule P : Int) (b : Bool) (w : World) (h : HisC w q p vl vr vt H) (hs : HS w p S l)
    (hP : P = nowOf H.l) (hn : H.l.length = 0) (hea : useA l P [rule] = (0, l')) :
    Calls Try.prog 38 #[.pointer (some ⟨q, 0, none⟩), .int .i64 k, .agg #[.int .i64 what, .int .i64 rule, .bool b]] w fun e w' =>
      ∃ T, e = .returned (.bool true) ∧ HisC w' q p vl vr vt H ∧ HS w' p T l' ∧ Step S T w w' := by
  have HC := Lib.hid (fun W (hb : Below w.heap.size w W) => now_any q p vl vr vt H W (h.ext hb))
  have HE := Lib.hid (fun W (hb : Below w.heap.size w W) lv (hl : Ints W lv [rule]) => call_to (Q := fun T' W' => Step S T' W W') hea (use_uni S l [rule] lv P p W (hs.ext hb) hl))
  have HK := Lib.hid (And.intro h hs)
  have h1 := h.c1
  obtain ⟨Al, cl, rfl, -⟩ := h.lform
  rw [hn] at h1
  have hqw := h.blk.lt
  have h0 := h.c0
  rw [← hP] at HC
  clear h hs hea hP
  have hB0 : Below w.heap.size w (w.alloc (.cells #[.int .i64 what, .int .i64 rule, .bool b] 35)) := (ext_refl w).alloc (Nat.le_refl _) _
  have hX0 := Lib.hid (Blk.new w 35 #[.int .i64 what, .int .i64 rule, .bool b])
  have HB0 := Lib.hid hB0
  clear hB0
  go_enter Try.func38, Try.ntmps38
  go_wp2_with (first
    | (go_at_call 58; refine ((HC.out _ HB0.out)).mono ?_; rintro e w1 ⟨rfl, hd1⟩; have hX1 := Lib.hid (hX0.out.ext (drew_ext hd1)); have hB1 := Lib.hid (ext_trans HB0.out (drew_ext hd1)); have x1 : w1.cell? ⟨w.heap.size, 1, none⟩ = some (.int .i64 rule) := hX1.out.cell 1; have xl := hX1.out.lt; have hq1 : w1.cell? ⟨q, 0, none⟩ = some (.pointer (some ⟨p, 0, none⟩)) := (hB1.out.cell (p := ⟨q, 0, none⟩) hqw).trans h0; have hq2 : w1.cell? ⟨q, 1, none⟩ = some (.slice Al 0 cl) := (hB1.out.cell (p := ⟨q, 1, none⟩) hqw).trans h1; have hql : q < w1.heap.size := Nat.lt_of_lt_of_le hqw hB1.out.size; clear hX0 HB0 hd1 h0 h1))
  go_region_held3 (fun w' => w'.cell? ⟨q, 0, none⟩ = some (.pointer (some ⟨p, 0, none⟩)) ∧ w'.cell? ⟨w.heap.size, 1, none⟩ = some (.int .i64 rule)) (go_keep)
    (first | (go_at_call 25; refine (HE.out _ ?_ _ ?_).mono ?_; exact hB1.out.drew.alloc hB1.out.size _; exact ints_at _ _ [rule] _ _ rfl rfl (by simp); rintro e w2 ⟨T, rfl, hs2, st2⟩
              have ha := aft HK.out.1 HK.out.2 (hB1.out.drew.alloc hB1.out.size _) ((hX1.out.drew).alloc _) st2
              have hA := Lib.hid (And.intro ha hs2)
              have c0 := ha.1.c0
              have x1 : w2.cell? ⟨w.heap.size, 1, none⟩ = some (.int .i64 rule) := ha.2.1.cell 1
              clear ha hs2 st2))
  go_wp2
  go_ret
  exact ⟨_, rfl, hA.out.1.1, hA.out.2, hA.out.1.2.2⟩

set_option maxRecDepth 100000 in
set_option maxHeartbeats 1600000 in
theorem huse_some (q p : Nat) (S : Nat → Prop) (vl vr vt : Value) (H : Hist) (l l' : List Fr) (k what rule P : Int) (b : Bool) (w : World) (h : HisC w q p vl vr vt H) (hs : HS w p S l)
    (hP : P = nowOf H.l) (hn : 0 < H.l.length) (hn1 : H.l.length ≤ 1000) (hn2 : H.touches.length ≤ 1000) (hea : useA l P [rule] = (0, l')) :
    Calls Try.prog 38 #[.pointer (some ⟨q, 0, none⟩), .int .i64 k, .agg #[.int .i64 what, .int .i64 rule, .bool b]] w fun e w' =>
      ∃ T vt', e = .returned (.bool true) ∧ HisC w' q p vl vr vt' { H with touches := H.touches ++ [⟨k, rule, P⟩] } ∧ HS w' p T l' ∧ Step (fun k => S k ∨ HFoot q vl vr vt k) (fun k => T k ∨ HFoot q vl vr vt' k) w w' := by
  obtain ⟨iT, ti, tz0, tz1, tz2⟩ := info_parts (P := Try.prog) (e := 87) (z := .agg #[.int .i64 0, .int .i64 0, .int .i64 0]) (size := 3) (bytes := 24) (by kernel_rfl)
  have HC := Lib.hid (fun W (hb : Below w.heap.size w W) => now_any q p vl vr vt H W (h.ext hb))
  have HE := Lib.hid (fun W (hs : HS W p S l) lv (hl : Ints W lv [rule]) => call_to (Q := fun T' W' => Step S T' W W') hea (use_uni S l [rule] lv P p W hs hl))
  have HK := Lib.hid (And.intro h hs)
  have h1 := h.c1
  have h3 := h.c3
  have hf := h.blk.frozen 3
  obtain ⟨Al, cl, rfl, -⟩ := h.lform
  obtain ⟨At, ct, rfl, -⟩ := h.tform
  have hqw := h.blk.lt
  have h0 := h.c0
  rw [← hP] at HC
  have hd : decide (0 < H.l.length) = true := by simpa using hn
  have hi : (0 : Int) < (H.l.length : Int) := by omega
  clear h hs hea hP
  have hB0 : Below w.heap.size w (w.alloc (.cells #[.int .i64 what, .int .i64 rule, .bool b] 35)) := (ext_refl w).alloc (Nat.le_refl _) _
  have hX0 := Lib.hid (Blk.new w 35 #[.int .i64 what, .int .i64 rule, .bool b])
  have HB0 := Lib.hid hB0
  clear hB0
  go_enter Try.func38, Try.ntmps38
  go_wp2_with (first
    | (go_at_call 58; refine ((HC.out _ HB0.out)).mono ?_; rintro e w1 ⟨rfl, hd1⟩; have hX1 := Lib.hid (hX0.out.ext (drew_ext hd1)); have hB1 := Lib.hid (ext_trans HB0.out (drew_ext hd1)); have hA := Lib.hid (And.intro (HK.out.1.ext hB1.out) (HK.out.2.ext hB1.out)); have x1 : w1.cell? ⟨w.heap.size, 1, none⟩ = some (.int .i64 rule) := hX1.out.cell 1; have xl := hX1.out.lt; have hq1 : w1.cell? ⟨q, 1, none⟩ = some (.slice Al H.l.length cl) := hA.out.1.c1; have hq3 : w1.cell? ⟨q, 3, none⟩ = some (.slice At H.touches.length ct) := hA.out.1.c3; have hqf := hA.out.1.blk.frozen 3; have hql : q < w1.heap.size := hA.out.1.blk.lt; clear hX0 HB0 hd1 h0 h1 h3 hf))
  have hrt := Lib.hid (show w1.ownsRow 0 87 3 (.slice At H.touches.length ct) H.touches.length ((H.touches.map Tc.row).flatMap fun r => r.map (Value.int .i64)) by simpa using hA.out.1.touches.1)
  have hW6 := Lib.hid (((ext_refl w1).alloc (Nat.le_refl _) (.cells #[.int .i64 k, .int .i64 rule, .int .i64 P] 87)).drew)
  go_region_law (refine step_app rfl (.tmp 20) (.tmp 26) 29 rfl 87 iT _ 3 24 Try.underlying29 ti tz0 tz1 tz2 rfl (by decide) (.slice At H.touches.length ct) H.touches.length _ rfl ((hrt.out.alloc _).drew) _ 1 1 [.int .i64 k, .int .i64 rule, .int .i64 P] rfl rfl (by simp) (cells_newA _ _ _ _ (by simp)) (by simp [Value.oneCell']) (by unfold maxLen; omega) (by omega) ?_
                 intro A3 c3' w7 hrow7 hu7 hv7 hz7
                 have hq7 := (hA.out.1.ext hW6.out).q_t hu7
                 have k1 : w7.cell? ⟨q, 3, none⟩ = some (.slice At H.touches.length ct) := hq7.cell 3
                 have kf := hq7.frozen 3
                 have kl := hq7.lt
                 have HU := Lib.hid (And.intro hu7 (And.intro hv7 hrow7))
                 clear hu7 hv7 hz7 hrow7 hq7)
  all_goals
    obtain ⟨hu7, hv7, hrow7⟩ := HU.out
    have hW := hW6.out
    obtain ⟨r1, r2, r3⟩ := (hA.out.1.ext hW).push_touches ⟨k, rule, P⟩ hrow7 hu7 hv7
    have hst : Step (fun k => S k ∨ HFoot q (.slice Al H.l.length cl) vr (.slice At H.touches.length ct) k) (fun k => S k ∨ HFoot q (.slice Al H.l.length cl) vr (.slice At H.touches.length ct) k) w w1 := Step.ext hB1.out
    have ha2 := aft2 (hA.out.1.ext hW) (hA.out.2.ext hW) (hX1.out.ext hW) (hst.trans (Step.ext hW)) r1 r2 r3
    generalize (w7.setCell ⟨q, 3, none⟩ (.slice A3 (H.touches.length + 1) c3')) = w6 at *
    have hA6 := Lib.hid (And.intro r1 ha2)
    clear r1 r2 r3 hst hW ha2 hu7 hv7 hrow7 HU k1 kf kl hq1 hq3 hqf hql x1 xl hA hB1 hX1 hrt hW6
    have c0 := hA6.out.1.c0
    have cl2 := hA6.out.1.blk.lt
    have x1 : w6.cell? ⟨w.heap.size, 1, none⟩ = some (.int .i64 rule) := hA6.out.2.2.1.cell 1
    have xl2 := hA6.out.2.2.1.lt
    go_wp2
    go_region_held3 (fun w' => w'.cell? ⟨q, 0, none⟩ = some (.pointer (some ⟨p, 0, none⟩)) ∧ w'.cell? ⟨w.heap.size, 1, none⟩ = some (.int .i64 rule)) (go_keep)
      (first | (go_at_call 25; refine (HE.out _ ?_ _ ?_).mono ?_; exact hA6.out.2.1.ext ((ext_refl w6).drew.alloc (Nat.le_refl _) _); exact ints_at _ _ [rule] _ _ rfl rfl (by simp); rintro e w2 ⟨T, rfl, hs2, st2⟩
                have hb6 := ((ext_refl w6).drew.alloc (Nat.le_refl _) (.cells #[.int .i64 rule] 3))
                have ha := aft hA6.out.1 hA6.out.2.1 hb6 ((hA6.out.2.2.1).ext hb6) st2
                have hA := Lib.hid (And.intro ha hs2)
                have c0 := ha.1.c0
                have x1 : w2.cell? ⟨w.heap.size, 1, none⟩ = some (.int .i64 rule) := ha.2.1.cell 1
                clear ha hs2 st2 hb6))
    go_wp2
    go_ret
    refine ⟨_, _, rfl, hA.out.1.1, hA.out.2, ?_⟩
    refine hA6.out.2.2.2.trans ⟨hA.out.1.2.2.upd.mono (fun k _ hk => .inl hk), fun k hk => ?_⟩
    rcases hk with hk | hk
    · exact (hA.out.1.2.2.sub k hk).imp .inl id
    · exact .inl (.inr hk)
end Go.Proofs.Ytjmidomcgaijjaa
