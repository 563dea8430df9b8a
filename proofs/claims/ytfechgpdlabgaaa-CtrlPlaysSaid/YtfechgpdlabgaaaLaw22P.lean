/-
  CtrlPlays holds for every input: what blocks and their stack tell of any calls is as specified. No condition.
-/
import Derived.Test.YtfechgpdlabgaaaCtlO
import Derived.ProofKit
import Derived.OpenShut
import Derived.ShutString
import Derived.ChangeOld
set_option linter.unusedVariables false
set_option linter.unusedSimpArgs false
namespace Go.Proofs.Ytfechgpdlabgaaa.ctrlPlaysDone
open Go.ChangeShapes Go.WideShapes Go.ChangeAt Go.RowKit
open Go.ChangeMaps (open_string shut_string)

theorem own : ownKnob Try.prog.godebug = none := by kernel_rfl
theorem laidOut : laidOutB Try.prog = true := by kernel_rfl
theorem bd_i64 {n : Int} (h : (Lit.int .i64 n).wf = true) : -9223372036854775808 ≤ n ∧ n ≤ 9223372036854775807 := bounds_i64 h
theorem nat_u64 {n : Int} (h : (Lit.int .u64 n).wf = true) : ∃ m : Nat, n = m ∧ m < 18446744073709551616 := by
  have h2 := bounds_u64 h
  exact ⟨n.toNat, by omega, by omega⟩
theorem nat_u8 {n : Int} (h : (Lit.int .u8 n).wf = true) : ∃ m : Nat, n = m ∧ m < 256 := by
  have h2 := bounds_u8 h
  exact ⟨n.toNat, by omega, by omega⟩

/-- A call whose number fits. -/
abbrev GOp := { o : COp // o.n < 18446744073709551616 }
def GOp.cells (o : GOp) : List Value := o.1.cells
instance : Inhabited GOp := ⟨⟨⟨0, 0, [], 0⟩, by decide⟩⟩
theorem u8_of {n : Int} (h : (Lit.int .u8 n).wf = true) : ∃ t : UInt8, n = (t.toNat : Int) := by
  have hb := bounds_u8 h
  exact ⟨UInt8.ofNat n.toNat, by simp [UInt8.toNat_ofNat]; omega⟩
theorem mk_op {H : Type} {enc : TypeId × Value → H} {w : World} {base : Nat} {spare : Nat → Bool} {held : Bool} (fs : Array Field) (hfs : Try.prog.underlying 107 = some (.struct fs)) (vs : List Value) (hl : vs.length = fs.size)
    (h : ∀ (j : Nat) (f : Field), fs[j]? = some f → ∃ (v : Value) (y : DataW H × List MemPlace) (n : Nat), vs[j]? = some v ∧ DataW.trod enc Try.prog w base spare held n f.type [v] = some y) : ∃ a : GOp, vs = a.cells := by
  rw [Try.underlying107] at hfs
  injection hfs with hfs
  injection hfs with hfs
  subst hfs
  match vs, hl with
  | [v0, v1, v2, v3], _ =>
    obtain ⟨_, y0, n0, e0, t0⟩ := h 0 _ rfl
    obtain ⟨_, y1, n1, e1, t1⟩ := h 1 _ rfl
    obtain ⟨_, y2, n2, e2, t2⟩ := h 2 _ rfl
    obtain ⟨_, y3, n3, e3, t3⟩ := h 3 _ rfl
    simp at e0 e1 e2 e3
    subst e0 e1 e2 e3
    obtain ⟨k, hk, _, _⟩ := DataW.trod_int Try.underlying3 t0
    obtain ⟨t, ht, _, wt⟩ := DataW.trod_int Try.underlying5 t1
    obtain ⟨s, hs, _, _⟩ := DataW.trod_string Try.underlying9 t2
    obtain ⟨n, hn, _, wn⟩ := DataW.trod_int Try.underlying27 t3
    simp at hk ht hs hn
    subst hk ht hs hn
    obtain ⟨u, rfl⟩ := u8_of wt
    obtain ⟨m, rfl, hm⟩ := nat_u64 wn
    exact ⟨⟨⟨k, u, s.data.toList, m⟩, hm⟩, by simp [GOp.cells, COp.cells, str_data]⟩

set_option maxRecDepth 100000 in
theorem lifted (os : Os) (started : os.Started) (H : Type) (enc : TypeId × Value → H) :
    ReturnsInHanded {} Try.checked os 12 .any (Rows.ctrlPlaysSpec.pre6 enc Try.prog Try.f12 Rows.ctrlPlaysRow.domain false) (Rows.ctrlPlaysSpec.post enc Try.prog Try.f12 false true false false) := by
  refine returnsInHanded_of_change (C := Try.checked) own started (by kernel_rfl) Try.func12
    (ChangeSpec.witness6 (enc := enc) (C := Try.checked) false ⟨#[], #[.string ByteArray.empty, .slice none 0 0], []⟩ 8 (by kernel_rfl) (by kernel_rfl) (by kernel_rfl) (by kernel_rfl)) ?_
  intro W base args ds gs before hval0 hW hcnd _
  have hval : ∀ (j : Nat) t v, Try.f12.params[j]? = some t → args[j]? = some v → Value.okWide Try.prog W .any base t v := hval0
  have hW' := hW
  obtain ⟨p, q, hA0, hV, rfl, hfz, hnd⟩ := hW
  have hA : DataW.TrodAll enc Try.prog W 0 (fun _ => true) true Try.f12.params.toList args.toList ds p := hA0
  rw [Try.params12] at hA hval
  obtain ⟨v0, vs0, d0, ds0, p0, q0, hargs, rfl, rfl, h0, r0⟩ := trodAll_cons hA
  obtain ⟨v1, vs1, d1, ds1, p1, q1, rfl, rfl, rfl, h1, r1⟩ := trodAll_cons r0
  obtain ⟨rfl, rfl, rfl⟩ := trodAll_nil r1
  obtain rfl : args = #[v0, v1] := by cases args; simp_all
  obtain ⟨rfl, rfl⟩ := trodVars_none hV
  obtain ⟨s0, rfl, rfl, rfl, w0⟩ := open_string Try.underlying9 (hval 0 9 v0 rfl rfl) h0
  have k1 := h1
  have lt1 : ∀ x ∈ p1, x.block < W.heap.size := by obtain ⟨m, hm⟩ := k1; exact DataW.trod_lt m _ _ _ hm
  obtain ⟨a1, len1, cap1, rfl⟩ := okWide_slice Try.underlying102 (hval 1 102 v1 rfl rfl)
  obtain ⟨ops', hlen, hr, hc, hc2⟩ : ∃ ops : List GOp, ops.length = len1 ∧ Reads W (fun k => k < W.heap.size) 4 a1 len1 (ops.flatMap GOp.cells) ∧ len1 ≤ cap1 ∧ cap1 ≤ maxLen := by
    obtain ⟨fuel, hf⟩ := h1
    exact open_structs GOp.cells Try.underlying102 Try.underlying107 (by kernel_rfl) (by kernel_rfl) (by decide) (fun _ => rfl) (fun vs hl h => mk_op _ Try.underlying107 vs hl h) hf
  obtain ⟨ops, hops, h64⟩ : ∃ ops : List COp, (ops'.map (·.1)) = ops ∧ ∀ o ∈ ops, o.n < 18446744073709551616 := ⟨_, rfl, fun o ho => by
    obtain ⟨x, _, rfl⟩ := List.mem_map.1 ho
    exact x.2⟩
  have hfl : ops'.flatMap GOp.cells = cops ops := by
    subst hops
    unfold cops
    rw [List.flatMap_map]
    rfl
  have hle : ops.length = ops'.length := by subst hops; simp
  rw [hfl] at hr
  obtain rfl : len1 = ops.length := by omega
  have hwk := ctl_plays_walk W s0.data.toList a1 cap1 ops hr hc (by unfold maxLen at hc2; omega) h64
  rw [str_data] at hwk
  clear hA0 hval0
  refine (hwk).mono fun e W' hh => ?_
  obtain ⟨he, bel⟩ := hh
  subst he
  exact ⟨_, rfl, _, _, _, [], _, [], hW', trodAll_mk1 (shut_bool Try.underlying4 _), (trodAll_cons_mk (shut_string Try.underlying9 w0) (trodAll_cons_mk (Below.trod laidOut (by kernel_rfl) (of_decide_eq_true (by kernel_rfl)) k1 bel lt1) trodAll_mk0)), rfl, bel.frame _, fun h => by cases h⟩

theorem over : Rows.ctrlPlaysRow.holds Try.pinned (OpenSpec.ofChange Rows.ctrlPlaysSpec) :=
  OpenClaim.holds_of_wide 12 Try.f12 rfl rfl rfl rfl rfl rfl rfl ⟨rfl, rfl, rfl, rfl, rfl⟩ rfl rfl rfl rfl rfl (by kernel_rfl) Try.func12 (by kernel_rfl)
    (of_decide_eq_true (by kernel_rfl)) (by unfold Func.isWrapper; first | (rw [if_pos (by decide +kernel)]; kernel_rfl) | (rw [if_neg (by decide +kernel)]; exact ⟨rfl, rfl⟩))
    (fun os started H enc _ => lifted os started H enc)

theorem proved : Rows.CtrlPlaysSaid := over
end Go.Proofs.Ytfechgpdlabgaaa.ctrlPlaysDone
