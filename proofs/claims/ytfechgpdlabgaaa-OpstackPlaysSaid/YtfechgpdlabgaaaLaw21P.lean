/-
  OpstackPlays holds for every input: what a stack of types tells of any calls is as specified. No condition. (The frame of the proof is as the guide's skeleton has it.)
-/
import Derived.Test.YtfechgpdlabgaaaStkG
import Derived.Test.YtfechgpdlabgaaaOpn
import Derived.ProofKit
import Derived.OpenShut
import Derived.ShutString
import Derived.ChangeOld
namespace Go.Proofs.Ytfechgpdlabgaaa.playsDone
open Go.ChangeShapes Go.WideShapes Go.ChangeAt Go.RowKit
open Go.ChangeMaps (open_string shut_string)

theorem own : ownKnob Try.prog.godebug = none := by kernel_rfl
theorem laidOut : laidOutB Try.prog = true := by kernel_rfl
instance : Inhabited SOp := ⟨⟨0, 0, 0, [], false⟩⟩

theorem u8_of {n : Int} (h : (Lit.int .u8 n).wf = true) : ∃ t : UInt8, n = (t.toNat : Int) := by
  have hb := bounds_u8 h
  exact ⟨UInt8.ofNat n.toNat, by simp [UInt8.toNat_ofNat]; omega⟩

theorem mk_op {H : Type} {enc : TypeId × Value → H} {w : World} {base : Nat} {spare : Nat → Bool} {held : Bool} (fs : Array Field) (hfs : Try.prog.underlying 55 = some (.struct fs)) (vs : List Value) (hl : vs.length = fs.size)
    (h : ∀ (j : Nat) (f : Field), fs[j]? = some f → ∃ (v : Value) (y : DataW H × List MemPlace) (n : Nat), vs[j]? = some v ∧ DataW.trod enc Try.prog w base spare held n f.type [v] = some y) : ∃ a : SOp, vs = a.cells := by
  rw [Try.underlying55] at hfs
  injection hfs with hfs
  injection hfs with hfs
  subst hfs
  match vs, hl with
  | [v0, v1, v2, v3, v4], _ =>
    obtain ⟨_, y0, n0, e0, t0⟩ := h 0 _ rfl
    obtain ⟨_, y1, n1, e1, t1⟩ := h 1 _ rfl
    obtain ⟨_, y2, n2, e2, t2⟩ := h 2 _ rfl
    obtain ⟨_, y3, n3, e3, t3⟩ := h 3 _ rfl
    obtain ⟨_, y4, n4, e4, t4⟩ := h 4 _ rfl
    simp at e0 e1 e2 e3 e4
    subst e0 e1 e2 e3 e4
    obtain ⟨k, hk, _, _⟩ := DataW.trod_int Try.underlying3 t0
    obtain ⟨n, hn, _, _⟩ := DataW.trod_int Try.underlying3 t1
    obtain ⟨t, ht, _, wt⟩ := DataW.trod_int Try.underlying5 t2
    obtain ⟨s, hs, _, _⟩ := DataW.trod_string Try.underlying9 t3
    obtain ⟨b, hb, _⟩ := DataW.trod_bool Try.underlying4 t4
    simp at hk hn ht hs hb
    subst hk hn ht hs hb
    obtain ⟨u, rfl⟩ := u8_of wt
    exact ⟨⟨k, n, u, s.data.toList, b⟩, by simp [SOp.cells, str_data]⟩

set_option maxRecDepth 100000 in
theorem lifted (os : Os) (started : os.Started) (H : Type) (enc : TypeId × Value → H) :
    ReturnsInHanded {} Try.checked os 6 .any (Rows.opstackPlaysSpec.pre6 enc Try.prog Try.f6 Rows.opstackPlaysRow.domain false) (Rows.opstackPlaysSpec.post enc Try.prog Try.f6 false true false false) := by
  refine returnsInHanded_of_change (C := Try.checked) own started (by kernel_rfl) Try.func6
    (ChangeSpec.witness6 (enc := enc) (C := Try.checked) false ⟨#[], #[.slice none 0 0], []⟩ 8 (by kernel_rfl) (by kernel_rfl) (by kernel_rfl) (by kernel_rfl)) ?_
  intro W base args ds gs before hval0 hW hcnd _
  have hval : ∀ (j : Nat) t v, Try.f6.params[j]? = some t → args[j]? = some v → Value.okWide Try.prog W .any base t v := hval0
  have hW' := hW
  obtain ⟨p, q, hA0, hV, rfl, hfz, hnd⟩ := hW
  have hA : DataW.TrodAll enc Try.prog W 0 (fun _ => true) true Try.f6.params.toList args.toList ds p := hA0
  rw [Try.params6] at hA hval
  obtain ⟨v0, vs0, d0, ds0, p0, q0, hargs, rfl, rfl, h0, r0⟩ := trodAll_cons hA
  obtain ⟨rfl, rfl, rfl⟩ := trodAll_nil r0
  obtain rfl : args = #[v0] := by cases args; simp_all
  obtain ⟨rfl, rfl⟩ := trodVars_none hV
  obtain ⟨a0, len0, cap0, rfl⟩ := okWide_slice Try.underlying53 (hval 0 53 v0 rfl rfl)
  have k0 := h0
  have lt0 : ∀ x ∈ p0, x.block < W.heap.size := by obtain ⟨m, hm⟩ := k0; exact DataW.trod_lt m _ _ _ hm
  obtain ⟨ops, hlen, hr, hc, hc2⟩ : ∃ ops : List SOp, ops.length = len0 ∧ Reads W (fun k => k < W.heap.size) 5 a0 len0 (ops.flatMap SOp.cells) ∧ len0 ≤ cap0 ∧ cap0 ≤ maxLen := by
    obtain ⟨fuel, hf⟩ := h0
    exact open_structs SOp.cells Try.underlying53 Try.underlying55 (by kernel_rfl) (by kernel_rfl) (by decide) (fun _ => rfl) (fun vs hl h => mk_op _ Try.underlying55 vs hl h) hf
  subst hlen
  clear hA0 hval0
  refine (plays_walk W a0 cap0 ops hr hc (by unfold maxLen at hc2; omega)).mono fun e W' ⟨he, bel⟩ => ?_
  subst he
  exact ⟨_, rfl, _, _, _, [], _, [], hW', trodAll_mk1 (shut_bool Try.underlying4 _), (trodAll_cons_mk (Below.trod laidOut (by kernel_rfl) (of_decide_eq_true (by kernel_rfl)) k0 bel lt0) trodAll_mk0), rfl, bel.frame _, fun h => by cases h⟩

theorem over : Rows.opstackPlaysRow.holds Try.pinned (OpenSpec.ofChange Rows.opstackPlaysSpec) :=
  OpenClaim.holds_of_wide 6 Try.f6 rfl rfl rfl rfl rfl rfl rfl ⟨rfl, rfl, rfl, rfl, rfl⟩ rfl rfl rfl rfl rfl (by kernel_rfl) Try.func6 (by kernel_rfl)
    (of_decide_eq_true (by kernel_rfl)) (by unfold Func.isWrapper; first | (rw [if_pos (by decide +kernel)]; kernel_rfl) | (rw [if_neg (by decide +kernel)]; exact ⟨rfl, rfl⟩))
    (fun os started H enc _ => lifted os started H enc)

theorem proved : Rows.OpstackPlaysSaid := over
end Go.Proofs.Ytfechgpdlabgaaa.playsDone
