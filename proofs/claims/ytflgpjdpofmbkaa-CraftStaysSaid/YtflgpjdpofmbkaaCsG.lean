/-
  craft: New, both; count.
-/
import Derived.Test.YtflgpjdpofmbkaaCsF
import Derived.Test.YtflgpjdpofmbkaaMxt
import Derived.Laws.ResultCell
set_option linter.unusedVariables false
set_option linter.unusedSimpArgs false
namespace Go.Proofs.Ytflgpjdpofmbkaa
open Go.RowKit

def imp0 : List Im := [⟨[101, 110, 118], [109, 101, 109, 111, 114, 121], 2, 0, 0, false⟩, ⟨[101, 110, 118], [95, 95, 105, 110, 100, 105, 114, 101, 99, 116, 95, 102, 117, 110, 99, 116, 105, 111, 110, 95, 116, 97, 98, 108, 101], 1, 0, 0, false⟩]
/-- A module as New makes it. -/
def new0 : Mo := { ts := [], is := imp0, fs := [], gs := [], es := [], els := [], cs := [], ds := [], nd := [], st := -1, d1 := 0, d2 := 0, d3 := 0, d4 := 0 }
def ad0 (g : Nat) : Ad := { A0 := none, c0 := 0, A1 := some ⟨g, 0, none⟩, c1 := 2, A2 := none, c2 := 0, A5 := none, c5 := 0, A6 := none, c6 := 0, A8 := none, c8 := 0, A9 := none, c9 := 0, A10 := none, c10 := 0, A16 := none, c16 := 0 }
theorem ims0 : #[Value.string { data := #[101, 110, 118] }, .string { data := #[109, 101, 109, 111, 114, 121] }, .int .u8 2, .int .u32 0, .int .u32 0, .int .u32 0, .bool false, .int .u8 0, .bool false, .string { data := #[101, 110, 118] }, .string { data := #[95, 95, 105, 110, 100, 105, 114, 101, 99, 116, 95, 102, 117, 110, 99, 116, 105, 111, 110, 95, 116, 97, 98, 108, 101] }, .int .u8 1, .int .u32 0, .int .u32 0, .int .u32 0, .bool false, .int .u8 0, .bool false].toList = ims imp0 := rfl
theorem own_lit (w : World) (cur : Array Value) (e : TypeId) (n size base : Nat) (hb : base ≤ w.heap.size) (hm : n ≤ maxLen) (hs : cur.size = n * size) : (w.alloc (.cells cur e)).ownsRow base e size (.slice (some ⟨w.heap.size, 0, none⟩) n n) n cur.toList :=
  ⟨(Array.length_toList (xs := cur)).trans hs, .inr ⟨w.heap.size, n, cur, rfl, hb, heap_alloc_new w _, Nat.le_refl _, hm, hs, by rw [← hs, ← Array.length_toList, List.take_length]⟩⟩
section
variable {w w' : World} {S : Nat → Prop} {a : Ad} {s : Mo}
theorem Rf.with0 (h : Rf w S a s) (hs : Step (fun _ => False) w w') {D : Option Addr} {c' : Nat} {l : List (Ft)} (ho : Reads w' (fun k => w.heap.size ≤ k) 2 D l.length (fts l)) :
    Rf w' (fun k => S k ∨ w.heap.size ≤ k) { a with A0 := D, c0 := c' } { s with ts := l } := by
  have h' := (h.step hs (fun _ _ => id)).mono (S' := fun k => S k ∨ w.heap.size ≤ k) (fun _ _ => .inl)
  exact ⟨ho.mono fun _ _ => .inr, h'.r1, h'.r2, h'.r5, h'.r6, h'.r8, h'.r9, h'.r10, h'.r16⟩
theorem Rf.with1 (h : Rf w S a s) (hs : Step (fun _ => False) w w') {D : Option Addr} {c' : Nat} {l : List (Im)} (ho : Reads w' (fun k => w.heap.size ≤ k) 9 D l.length (ims l)) :
    Rf w' (fun k => S k ∨ w.heap.size ≤ k) { a with A1 := D, c1 := c' } { s with is := l } := by
  have h' := (h.step hs (fun _ _ => id)).mono (S' := fun k => S k ∨ w.heap.size ≤ k) (fun _ _ => .inl)
  exact ⟨h'.r0, ho.mono fun _ _ => .inr, h'.r2, h'.r5, h'.r6, h'.r8, h'.r9, h'.r10, h'.r16⟩
theorem Rf.with2 (h : Rf w S a s) (hs : Step (fun _ => False) w w') {D : Option Addr} {c' : Nat} {l : List (Nat)} (ho : Reads w' (fun k => w.heap.size ≤ k) 1 D l.length (u32s l)) :
    Rf w' (fun k => S k ∨ w.heap.size ≤ k) { a with A2 := D, c2 := c' } { s with fs := l } := by
  have h' := (h.step hs (fun _ _ => id)).mono (S' := fun k => S k ∨ w.heap.size ≤ k) (fun _ _ => .inl)
  exact ⟨h'.r0, h'.r1, ho.mono fun _ _ => .inr, h'.r5, h'.r6, h'.r8, h'.r9, h'.r10, h'.r16⟩
theorem Rf.with5 (h : Rf w S a s) (hs : Step (fun _ => False) w w') {D : Option Addr} {c' : Nat} {l : List (Gl)} (ho : Reads w' (fun k => w.heap.size ≤ k) 6 D l.length (gls l)) :
    Rf w' (fun k => S k ∨ w.heap.size ≤ k) { a with A5 := D, c5 := c' } { s with gs := l } := by
  have h' := (h.step hs (fun _ _ => id)).mono (S' := fun k => S k ∨ w.heap.size ≤ k) (fun _ _ => .inl)
  exact ⟨h'.r0, h'.r1, h'.r2, ho.mono fun _ _ => .inr, h'.r6, h'.r8, h'.r9, h'.r10, h'.r16⟩
theorem Rf.with6 (h : Rf w S a s) (hs : Step (fun _ => False) w w') {D : Option Addr} {c' : Nat} {l : List (Ex)} (ho : Reads w' (fun k => w.heap.size ≤ k) 3 D l.length (exs l)) :
    Rf w' (fun k => S k ∨ w.heap.size ≤ k) { a with A6 := D, c6 := c' } { s with es := l } := by
  have h' := (h.step hs (fun _ _ => id)).mono (S' := fun k => S k ∨ w.heap.size ≤ k) (fun _ _ => .inl)
  exact ⟨h'.r0, h'.r1, h'.r2, h'.r5, ho.mono fun _ _ => .inr, h'.r8, h'.r9, h'.r10, h'.r16⟩
theorem Rf.with8 (h : Rf w S a s) (hs : Step (fun _ => False) w w') {D : Option Addr} {c' : Nat} {l : List (El)} (ho : Reads w' (fun k => w.heap.size ≤ k) 5 D l.length (elsL l)) :
    Rf w' (fun k => S k ∨ w.heap.size ≤ k) { a with A8 := D, c8 := c' } { s with els := l } := by
  have h' := (h.step hs (fun _ _ => id)).mono (S' := fun k => S k ∨ w.heap.size ≤ k) (fun _ _ => .inl)
  exact ⟨h'.r0, h'.r1, h'.r2, h'.r5, h'.r6, ho.mono fun _ _ => .inr, h'.r9, h'.r10, h'.r16⟩
theorem Rf.with9 (h : Rf w S a s) (hs : Step (fun _ => False) w w') {D : Option Addr} {c' : Nat} {l : List (Cd)} (ho : Reads w' (fun k => w.heap.size ≤ k) 2 D l.length (cdsL l)) :
    Rf w' (fun k => S k ∨ w.heap.size ≤ k) { a with A9 := D, c9 := c' } { s with cs := l } := by
  have h' := (h.step hs (fun _ _ => id)).mono (S' := fun k => S k ∨ w.heap.size ≤ k) (fun _ _ => .inl)
  exact ⟨h'.r0, h'.r1, h'.r2, h'.r5, h'.r6, h'.r8, ho.mono fun _ _ => .inr, h'.r10, h'.r16⟩
theorem Rf.with10 (h : Rf w S a s) (hs : Step (fun _ => False) w w') {D : Option Addr} {c' : Nat} {l : List (Da)} (ho : Reads w' (fun k => w.heap.size ≤ k) 5 D l.length (das l)) :
    Rf w' (fun k => S k ∨ w.heap.size ≤ k) { a with A10 := D, c10 := c' } { s with ds := l } := by
  have h' := (h.step hs (fun _ _ => id)).mono (S' := fun k => S k ∨ w.heap.size ≤ k) (fun _ _ => .inl)
  exact ⟨h'.r0, h'.r1, h'.r2, h'.r5, h'.r6, h'.r8, h'.r9, ho.mono fun _ _ => .inr, h'.r16⟩
theorem Rf.with16 (h : Rf w S a s) (hs : Step (fun _ => False) w w') {D : Option Addr} {c' : Nat} {l : List (List UInt8)} (ho : Reads w' (fun k => w.heap.size ≤ k) 1 D l.length (strs l)) :
    Rf w' (fun k => S k ∨ w.heap.size ≤ k) { a with A16 := D, c16 := c' } { s with nd := l } := by
  have h' := (h.step hs (fun _ _ => id)).mono (S' := fun k => S k ∨ w.heap.size ≤ k) (fun _ _ => .inl)
  exact ⟨h'.r0, h'.r1, h'.r2, h'.r5, h'.r6, h'.r8, h'.r9, h'.r10, ho.mono fun _ _ => .inr⟩
end

/-! ### a module loaded and stored whole: its cells stay one letter -/
theorem mdC_size (a : Ad) (s : Mo) : (mdC a s).size = 17 := rfl
theorem mdC_one (a : Ad) (s : Mo) : (mdC a s).all (·.oneCell') = true := by simp [mdC, Value.oneCell']
section
variable {w : World} {a : Act} {o : Oper} {ops : Array Oper} {rest : List Oper} {Q : Exit → Act → World → Prop} {g : Nat} {cs old : Array Value}
theorem info_mod : (Try.prog.info? 41).map (·.size) = some 17 := by kernel_rfl
theorem ld_mod (hgd : o.guard = none) (x : Operand) (ho : o.op = .load 41 x) (g : Nat) (hx : a.eval x = .pointer (some ⟨g, 0, none⟩)) (cs : Array Value) (hB : Blk w g 41 cs) (h17 : cs.size = 17)
    (h : wpList Try.prog ops Q rest (a.put o.dst (.agg cs)) w) : wpList Try.prog ops Q (o :: rest) a w :=
  wpList_load_row hgd _ x ho g hx _ cs (0, 0) _ hB Try.underlying41 rfl (by rw [h17]; exact info_mod) h
theorem st_mod (hgd : o.guard = none) (x y : Operand) (ho : o.op = .store 41 x y) (hd : o.dst = none) (g : Nat) (hx : a.eval x = .pointer (some ⟨g, 0, none⟩)) (cs : Array Value) (hy : a.eval y = .agg cs) (hB : Blk w g 41 old)
    (hold : old.size = 17) (h17 : cs.size = 17) (h1 : cs.all (·.oneCell') = true) (h : wpList Try.prog ops Q rest a (w.setRow g cs)) : wpList Try.prog ops Q (o :: rest) a w :=
  wpList_store_rowTo hgd _ x y ho hd g cs hx hy _ old hB (by rw [h17]; exact info_mod) (by rw [hold, h17]) h1 h
theorem run_mod (hB : Blk w g 41 cs) (h17 : cs.size = 17) : (loadVar 41 ⟨g, 0, none⟩).run Try.prog w = .ok (.agg cs) w :=
  run_loadVar_row w g _ _ cs (0, 0) _ hB Try.underlying41 rfl (by rw [h17]; exact info_mod)
theorem wp_st_mod {K : Act → World → Prop} (x y : Operand) (ho : o.op = .store 41 x y) (hd : o.dst = none) (g : Nat) (hx : a.eval x = .pointer (some ⟨g, 0, none⟩)) (cs : Array Value) (hy : a.eval y = .agg cs) (hB : Blk w g 41 old)
    (hold : old.size = 17) (h17 : cs.size = 17) (h1 : cs.all (·.oneCell') = true) (h : K a (w.setRow g cs)) : o.wp Try.prog a w K Q :=
  wp_store_row _ x y ho g cs hx hy _ old hB (by rw [h17]; exact info_mod) (by rw [hold, h17]) h1 (by rw [hd]; exact h)
theorem res_mod2 {fn : Func} {p u : Tmp} (h : fn.results = #[.cell p 41, .tmp u]) {tmps : Array Value} (g : Nat) (hp : tmps.getD p undef = .pointer (some ⟨g, 0, none⟩)) {v : Value} (hv : tmps.getD u undef = v) (hB : Blk w g 41 cs) (h17 : cs.size = 17) :
    (results fn tmps).run Try.prog w = .ok (.tuple #[.agg cs, v]) w := by
  rw [results_cell_tmp h, hp, hv]
  simp only [asAddr, Sem.run_pure, Result.andThen_ok, run_mod hB h17]
theorem res_mod3 {fn : Func} {p u u' : Tmp} (h : fn.results = #[.cell p 41, .tmp u, .tmp u']) {tmps : Array Value} (g : Nat) (hp : tmps.getD p undef = .pointer (some ⟨g, 0, none⟩)) {v v' : Value} (hv : tmps.getD u undef = v) (hv' : tmps.getD u' undef = v') (hB : Blk w g 41 cs) (h17 : cs.size = 17) :
    (results fn tmps).run Try.prog w = .ok (.tuple #[.agg cs, v, v']) w := by
  have e : (results fn tmps).run Try.prog w = ((asAddr (tmps.getD p undef)).run Try.prog w).andThen fun a w₁ => ((loadVar 41 a).run Try.prog w₁).andThen fun v w₂ => .ok (.tuple #[v, tmps.getD u undef, tmps.getD u' undef]) w₂ := by
    simp only [results, h]
    simp [Sem.run_bind, Result.andThen]
  rw [e, hp, hv, hv']
  simp only [asAddr, Sem.run_pure, Result.andThen_ok, run_mod hB h17]
/-- In a region that draws: the whole module loaded. -/
theorem quiet_ld_mod {C : World → Prop} {K : Act → Prop} (x : Operand) (ho : o.op = .load 41 x) (g : Nat) (hx : a.eval x = .pointer (some ⟨g, 0, none⟩)) (cs : Array Value) (hC : ∀ w, C w → Blk w g 41 cs) (h17 : cs.size = 17)
    (hk : K (a.put o.dst (.agg cs))) : o.quiet Try.prog a C K :=
  ⟨_, fun w hw => by
    unfold Oper.quietAt execOp
    simp only [ho, hx, Instr.loadAt, Instr.sureAddr, Sem.run_bind, Sem.run_pure, Result.andThen_ok, run_mod (hC w hw) h17]
    exact ⟨rfl, rfl⟩, hk⟩
end

set_option maxRecDepth 100000 in
set_option maxHeartbeats 3200000 in
theorem rnew_ok (w : World) : Calls Try.prog 7 #[] w fun e w' => ∃ g, e = .returned (.agg (mdC (ad0 g) new0)) ∧ Rf w' (fun k => w.heap.size ≤ k) (ad0 g) new0 ∧ Step (fun _ => False) w w' := by
  have HZf : Blk ((w.alloc (.cells #[.slice none 0 0, .slice none 0 0, .slice none 0 0, .slice none 0 0, .slice none 0 0, .slice none 0 0, .slice none 0 0, .int .i64 0, .slice none 0 0, .slice none 0 0, .slice none 0 0, .bool false, .int .u32 0, .int .u32 0, .int .u32 0, .int .u32 0, .slice none 0 0] 41)).alloc (.cells #[Value.string { data := #[101, 110, 118] }, .string { data := #[109, 101, 109, 111, 114, 121] }, .int .u8 2, .int .u32 0, .int .u32 0, .int .u32 0, .bool false, .int .u8 0, .bool false, .string { data := #[101, 110, 118] }, .string { data := #[95, 95, 105, 110, 100, 105, 114, 101, 99, 116, 95, 102, 117, 110, 99, 116, 105, 111, 110, 95, 116, 97, 98, 108, 101] }, .int .u8 1, .int .u32 0, .int .u32 0, .int .u32 0, .bool false, .int .u8 0, .bool false] 67)) w.heap.size 41 #[.slice none 0 0, .slice none 0 0, .slice none 0 0, .slice none 0 0, .slice none 0 0, .slice none 0 0, .slice none 0 0, .int .i64 0, .slice none 0 0, .slice none 0 0, .slice none 0 0, .bool false, .int .u32 0, .int .u32 0, .int .u32 0, .int .u32 0, .slice none 0 0] := (Blk.new w _ _).alloc _
  have hone : (#[.slice none 0 0, .slice (some ⟨w.heap.size + 1, 0, none⟩) 2 2, .slice none 0 0, .slice none 0 0, .slice none 0 0, .slice none 0 0, .slice none 0 0, .int .i64 (-1), .slice none 0 0, .slice none 0 0, .slice none 0 0, .bool true, .int .u32 0, .int .u32 0, .int .u32 0, .int .u32 0, .slice none 0 0] : Array Value).all (·.oneCell') = true := by simp [Value.oneCell']
  have h1 : (w.alloc (.cells #[.slice none 0 0, .slice none 0 0, .slice none 0 0, .slice none 0 0, .slice none 0 0, .slice none 0 0, .slice none 0 0, .int .i64 0, .slice none 0 0, .slice none 0 0, .slice none 0 0, .bool false, .int .u32 0, .int .u32 0, .int .u32 0, .int .u32 0, .slice none 0 0] 41)).heap.size = w.heap.size + 1 := by simp
  go_enter Try.func7, Try.ntmps7
  go_wp2_with fail
  have hR : Blk ((w.alloc (.cells #[.slice none 0 0, .slice (some ⟨w.heap.size + 1, 0, none⟩) 2 2, .slice none 0 0, .slice none 0 0, .slice none 0 0, .slice none 0 0, .slice none 0 0, .int .i64 (-1), .slice none 0 0, .slice none 0 0, .slice none 0 0, .bool true, .int .u32 0, .int .u32 0, .int .u32 0, .int .u32 0, .slice none 0 0] 41)).alloc (.cells #[Value.string { data := #[101, 110, 118] }, .string { data := #[109, 101, 109, 111, 114, 121] }, .int .u8 2, .int .u32 0, .int .u32 0, .int .u32 0, .bool false, .int .u8 0, .bool false, .string { data := #[101, 110, 118] }, .string { data := #[95, 95, 105, 110, 100, 105, 114, 101, 99, 116, 95, 102, 117, 110, 99, 116, 105, 111, 110, 95, 116, 97, 98, 108, 101] }, .int .u8 1, .int .u32 0, .int .u32 0, .int .u32 0, .bool false, .int .u8 0, .bool false] 67)) w.heap.size 41 #[.slice none 0 0, .slice (some ⟨w.heap.size + 1, 0, none⟩) 2 2, .slice none 0 0, .slice none 0 0, .slice none 0 0, .slice none 0 0, .slice none 0 0, .int .i64 (-1), .slice none 0 0, .slice none 0 0, .slice none 0 0, .bool true, .int .u32 0, .int .u32 0, .int .u32 0, .int .u32 0, .slice none 0 0] := (Blk.new w _ _).alloc _
  refine bodyPost_ret (v := .agg #[.slice none 0 0, .slice (some ⟨w.heap.size + 1, 0, none⟩) 2 2, .slice none 0 0, .slice none 0 0, .slice none 0 0, .slice none 0 0, .slice none 0 0, .int .i64 (-1), .slice none 0 0, .slice none 0 0, .slice none 0 0, .bool true, .int .u32 0, .int .u32 0, .int .u32 0, .int .u32 0, .slice none 0 0]) (results_cell_row Try.results7 _ _ (w.heap.size) _ _ _ _ rfl hR Try.underlying41 rfl (by exact info_mod)) rfl ?_
  refine ⟨w.heap.size + 1, rfl, ?_, Step.alloc (Step.alloc Step.refl _) _⟩
  have hr := (reads_new (w.alloc (.cells #[.slice none 0 0, .slice (some ⟨w.heap.size + 1, 0, none⟩) 2 2, .slice none 0 0, .slice none 0 0, .slice none 0 0, .slice none 0 0, .slice none 0 0, .int .i64 (-1), .slice none 0 0, .slice none 0 0, .slice none 0 0, .bool true, .int .u32 0, .int .u32 0, .int .u32 0, .int .u32 0, .slice none 0 0] 41)) #[Value.string { data := #[101, 110, 118] }, .string { data := #[109, 101, 109, 111, 114, 121] }, .int .u8 2, .int .u32 0, .int .u32 0, .int .u32 0, .bool false, .int .u8 0, .bool false, .string { data := #[101, 110, 118] }, .string { data := #[95, 95, 105, 110, 100, 105, 114, 101, 99, 116, 95, 102, 117, 110, 99, 116, 105, 111, 110, 95, 116, 97, 98, 108, 101] }, .int .u8 1, .int .u32 0, .int .u32 0, .int .u32 0, .bool false, .int .u8 0, .bool false] 67 9 2 rfl)
  rw [show (w.alloc (.cells #[.slice none 0 0, .slice (some ⟨w.heap.size + 1, 0, none⟩) 2 2, .slice none 0 0, .slice none 0 0, .slice none 0 0, .slice none 0 0, .slice none 0 0, .int .i64 (-1), .slice none 0 0, .slice none 0 0, .slice none 0 0, .bool true, .int .u32 0, .int .u32 0, .int .u32 0, .int .u32 0, .slice none 0 0] 41)).heap.size = w.heap.size + 1 by simp] at hr
  exact ⟨Reads.nil_, hr.mono (fun k _ hk => by omega), Reads.nil_, Reads.nil_, Reads.nil_, Reads.nil_, Reads.nil_, Reads.nil_, Reads.nil_⟩

set_option maxRecDepth 100000 in
set_option maxHeartbeats 3200000 in
theorem knew_ok (w : World) (B : Nat) (hB : B ≤ w.heap.size) : Calls Try.prog 6 #[] w fun e w' => ∃ X g, e = .returned (.pointer (some ⟨X, 0, none⟩)) ∧ Mk w' B X (ad0 g) new0 0 0 ∧ Step (fun _ => False) w w' ∧ w.heap.size ≤ X := by
  go_enter Try.func6, Try.ntmps6
  go_wp2_with fail
  go_ret
  obtain ⟨v, hv⟩ : ∃ v, v = w.alloc (.cells #[.slice none 0 0, .slice (some ⟨w.heap.size + 1, 0, none⟩) 2 2, .slice none 0 0, .slice none 0 0, .slice none 0 0, .slice none 0 0, .slice none 0 0, .int .i64 (-1), .slice none 0 0, .slice none 0 0, .slice none 0 0, .bool true, .int .u32 0, .int .u32 0, .int .u32 0, .int .u32 0, .slice none 0 0, .int .i64 0, .int .i64 0, .bool false] 61) := ⟨_, rfl⟩
  rw [← hv]
  have hX : Blk v w.heap.size 61 #[.slice none 0 0, .slice (some ⟨w.heap.size + 1, 0, none⟩) 2 2, .slice none 0 0, .slice none 0 0, .slice none 0 0, .slice none 0 0, .slice none 0 0, .int .i64 (-1), .slice none 0 0, .slice none 0 0, .slice none 0 0, .bool true, .int .u32 0, .int .u32 0, .int .u32 0, .int .u32 0, .slice none 0 0, .int .i64 0, .int .i64 0, .bool false] := by rw [hv]; exact Blk.new w _ _
  have hs : Step (fun _ => False) w v := by rw [hv]; exact Step.alloc Step.refl _
  have hz : v.heap.size = w.heap.size + 1 := by rw [hv]; simp
  refine ⟨w.heap.size, w.heap.size + 1, rfl, ⟨hX.alloc _, World.ownsRow_nil _ _ _ _, ?_, World.ownsRow_nil _ _ _ _, World.ownsRow_nil _ _ _ _, World.ownsRow_nil _ _ _ _, World.ownsRow_nil _ _ _ _, World.ownsRow_nil _ _ _ _, World.ownsRow_nil _ _ _ _, World.ownsRow_nil _ _ _ _, hB⟩, hs.alloc _, Nat.le_refl _⟩
  have := own_lit v #[Value.string { data := #[101, 110, 118] }, .string { data := #[109, 101, 109, 111, 114, 121] }, .int .u8 2, .int .u32 0, .int .u32 0, .int .u32 0, .bool false, .int .u8 0, .bool false, .string { data := #[101, 110, 118] }, .string { data := #[95, 95, 105, 110, 100, 105, 114, 101, 99, 116, 95, 102, 117, 110, 99, 116, 105, 111, 110, 95, 116, 97, 98, 108, 101] }, .int .u8 1, .int .u32 0, .int .u32 0, .int .u32 0, .bool false, .int .u8 0, .bool false] 67 2 9 B (by omega) (by decide) rfl
  rw [hz] at this
  exact this
end Go.Proofs.Ytflgpjdpofmbkaa
