/-
  creellaw47: do, all kinds; awake.
-/
import Derived.Test.YtflgpjdpofmbkaaCsR
import Derived.Test.YtflgpjdpofmbkaaCsS
import Derived.Test.YtflgpjdpofmbkaaCsW
import Derived.Test.YtflgpjdpofmbkaaCsV
import Derived.Test.YtflgpjdpofmbkaaCsM
set_option linter.unusedVariables false
set_option linter.unusedSimpArgs false
namespace Go.Proofs.Ytflgpjdpofmbkaa
open Go.RowKit
section
variable (T : Nat → Prop) (w : World) (B X : Nat) (a : Ad) (s : Mo) (tk vr : Int) (am : Ad) (m : Mo)
theorem num_all (h : St T w B X a s tk vr am m) (hB : B ≤ w.heap.size) (hl : s.small 900) (o : Opx) (ho : o.ok w (Old T w)) :
    Calls Try.prog 28 #[.pointer (some ⟨X, 0, none⟩), .agg (mdC am m), .agg #[.int .i64 o.k, .string (str o.s), .int .u32 (o.n : Int), .int .u32 (o.n2 : Int), .string (str o.t.p), .string (str o.t.r), .string (str o.lo), .slice o.A o.bo.length o.c, .int .u8 (o.vt : Int), .int .u64 (o.vn : Int), .bool o.mu]] w (DOut T w B X a s) := by
  have hgs : 0 < s.gs.length ∨ s.gs.length = 0 := by omega
  have hfs : 0 < s.fs.length ∨ s.fs.length = 0 := by omega
  by_cases k2 : o.k = 2
  · rw [k2]; exact num2 T w B X a s tk vr am m h hB hl o ho
  by_cases k3 : o.k = 3
  · rw [k3]
    rcases hfs with hf | hf
    · exact num3l T w B X a s tk vr am m h hB hl o ho hf
    · exact num3 T w B X a s tk vr am m h hB hl o ho hf
  by_cases k4 : o.k = 4
  · rw [k4]
    rcases hgs with hg | hg
    · exact num4l T w B X a s tk vr am m h hB hl o ho hg
    · exact num4 T w B X a s tk vr am m h hB hl o ho hg
  by_cases k5 : o.k = 5
  · rw [k5]
    rcases hgs with hg | hg
    · exact num5l T w B X a s tk vr am m h hB hl o ho hg
    · exact num5 T w B X a s tk vr am m h hB hl o ho hg
  by_cases k6 : o.k = 6
  · rw [k6]
    rcases hgs with hg | hg
    · exact num6l T w B X a s tk vr am m h hB hl o ho hg
    · exact num6 T w B X a s tk vr am m h hB hl o ho hg
  by_cases k7 : o.k = 7
  · rw [k7]
    rcases hgs with hg | hg
    · exact num7l T w B X a s tk vr am m h hB hl o ho hg
    · exact num7 T w B X a s tk vr am m h hB hl o ho hg
  by_cases k8 : o.k = 8
  · rw [k8]; exact num8 T w B X a s tk vr am m h hB hl o ho
  by_cases k9 : o.k = 9
  · rw [k9]
    by_cases ht : o.vt = 126
    · have := num9y T w B X a s tk vr am m h hB hl o ho
      rw [show ((o.vt : Nat) : Int) = 126 by omega]
      exact this
    · exact num9n T w B X a s tk vr am m h hB hl o ho ht
  exact num_other T w B X a s tk vr am m h o (fun j h1 h2 e => by
    have : j = 2 ∨ j = 3 ∨ j = 4 ∨ j = 5 ∨ j = 6 ∨ j = 7 ∨ j = 8 ∨ j = 9 := by omega
    rcases this with rfl | rfl | rfl | rfl | rfl | rfl | rfl | rfl
    all_goals first | exact k2 e | exact k3 e | exact k4 e | exact k5 e | exact k6 e | exact k7 e | exact k8 e | exact k9 e)
theorem do_all (h : St T w B X a s tk vr am m) (hB : B ≤ w.heap.size) (hl : s.small 900) (o : Opx) (ho : o.ok w (Old T w)) :
    Calls Try.prog 9 #[.pointer (some ⟨X, 0, none⟩), .agg (mdC am m), .agg o.cells] w (DOut T w B X a s) := by
  rw [show o.cells = #[.int .i64 o.k, .string (str o.s), .int .u32 (o.n : Int), .int .u32 (o.n2 : Int), .string (str o.t.p), .string (str o.t.r), .string (str o.lo), .slice o.A o.bo.length o.c, .int .u8 (o.vt : Int), .int .u64 (o.vn : Int), .bool o.mu] from rfl]
  by_cases k0 : o.k = 0
  · rw [k0]; exact do0 T w B X a s tk vr am m h hB hl o ho
  by_cases k1 : o.k = 1
  · rw [k1]; exact do1 T w B X a s tk vr am m h hB hl o ho
  by_cases k10 : o.k = 10
  · rw [k10]; exact do10 T w B X a s tk vr am m h hB hl o ho
  by_cases k11 : o.k = 11
  · rw [k11]; exact do11 T w B X a s tk vr am m h hB hl o ho
  by_cases k12 : o.k = 12
  · rw [k12]; exact do12 T w B X a s tk vr am m h hB hl o ho
  by_cases k13 : o.k = 13
  · rw [k13]; exact do13 T w B X a s tk vr am m h hB hl o ho
  refine do_other T w B X a s tk vr am m h hB o ho.n (fun j hj e => ?_) (fun w1 hB1 hs1 h1 => num_all (Old T w) w1 B X a s tk vr am m h1 hB1 hl o ((ho.step hs1 (fun _ _ => id)).mono (fun k hk hh => ⟨hh, hk⟩)))
  have : j = 0 ∨ j = 1 ∨ j = 10 ∨ j = 11 ∨ j = 12 ∨ j = 13 := by omega
  rcases this with rfl | rfl | rfl | rfl | rfl | rfl
  all_goals first | exact k0 e | exact k1 e | exact k10 e | exact k11 e | exact k12 e | exact k13 e
end

set_option maxRecDepth 100000 in
set_option maxHeartbeats 3200000 in
theorem awake47 (w : World) : Calls Try.prog 4 #[] w fun e w' => e = .returned (.bool true) ∧ Step (fun _ => False) w w' := by
  have HN := Lib.hid (knew_ok w w.heap.size (Nat.le_refl _))
  go_enter Try.func4, Try.ntmps4
  go_wp2_with fail
  refine HN.out.mono ?_
  rintro e w1 ⟨X, g, rfl, hm, hs, hX⟩
  have HF := Lib.hid (func_ok w1 w.heap.size X (ad0 g) new0 0 0 hm hs.size ⟨by decide, by decide, by decide, by decide, by decide, by decide, by decide, by decide, by decide⟩ ⟨[], []⟩ [] (by decide) [] (by decide) none 0 (fun _ => True) Reads.nil_)
  have HS := Lib.hid hs
  have HX := Lib.hid hX
  have hin : Hid (∀ k, ftA X (ad0 g) k → w.heap.size ≤ k) := hm.gef
  clear hs hX hm
  go_wp2_with fail
  refine HF.out.mono ?_
  rintro e w2 ⟨⟨z, rfl, hz⟩, a1, LA, lc, BA, bc, hm, hu, -, -⟩
  obtain rfl : z = 0 := by first | exact hz rfl rfl | exact hz trivial rfl | simpa [new0] using hz
  obtain ⟨s2, hs2⟩ : ∃ s2 : Mo, s2 = { new0 with ts := tyL new0.ts ⟨[], []⟩, fs := new0.fs ++ [tyI new0.ts ⟨[], []⟩], cs := new0.cs ++ [⟨[], [] ++ [endI], LA, lc, BA, bc⟩] } := ⟨_, rfl⟩
  rw [← hs2] at hm
  have hfs : s2.fs.length = 1 := by rw [hs2]; rfl
  have hsm : s2.small 1000 := by rw [hs2]; exact ⟨Nat.le_trans (tyL_len new0.ts ⟨[], []⟩) (by decide), (by show 2 ≤ 1000; decide), (by show 1 ≤ 1000; decide), (by show 0 ≤ 1000; decide), (by show 0 ≤ 1000; decide), (by show 0 ≤ 1000; decide), (by show 1 ≤ 1000; decide), (by show 0 ≤ 1000; decide), (by show 0 ≤ 1000; decide)⟩
  have HT := Lib.hid (take_late w2 w.heap.size X a1 s2 0 0 hm [102] ⟨[], []⟩ (by omega))
  have HMk := Lib.hid hm
  have HS2 : Hid (Step (fun _ => False) w w2) := HS.out.trans' hu.1 (fun k hk => .inr (hin.out k hk))
  have HFs := Lib.hid hfs
  have HSm := Lib.hid hsm
  clear hs2 hm hu hfs hsm HF hz
  go_wp2_with fail
  refine HT.out.mono ?_
  rintro e w3 ⟨rfl, hs3⟩
  have HMo := Lib.hid (module_ok w3 w.heap.size X a1 s2 0 0 (HMk.out.quiet hs3) HSm.out)
  have HS3 := Lib.hid (HS2.out.trans hs3)
  clear hs3
  go_wp2_with fail
  refine HMo.out.mono ?_
  rintro e w4 ⟨a4, rfl, -, hs4⟩
  have hfld : ∀ w : World, (Instr.field 41 (.agg (mdC a4 s2)) 2).run Try.prog w = .ok (.slice a4.A2 s2.fs.length a4.c2) w := fun _ => by kernel_rfl
  rw [HFs.out] at hfld
  obtain ⟨M4, hM4⟩ : ∃ M4, M4 = mdC a4 s2 := ⟨_, rfl⟩
  rw [← hM4] at hfld ⊢
  clear hM4
  go_wp2_with fail
  go_ret
  exact ⟨rfl, HS3.out.trans hs4⟩
end Go.Proofs.Ytflgpjdpofmbkaa
