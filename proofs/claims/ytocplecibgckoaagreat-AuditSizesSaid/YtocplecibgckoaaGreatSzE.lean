import Derived.Test.YtocplecibgckoaaGreatSzA
import Derived.Test.YtocplecibgckoaaGreatRows
namespace Go.Proofs.YtocplecibgckoaaGreat
open Go Go.Eng Go.ChangeShapes Go.WideShapes Go.RowKit Go.Deep
set_option maxRecDepth 20000
theorem op_fields : Tryz.prog.underlying 111 = some (.struct (Tryz.prog.fieldsOf 111)) := by kernel_rfl
theorem op_list : (Tryz.prog.fieldsOf 111).toList.map (fun f => (f.type, f.offset)) = [(3, 0), (9, 1), (9, 2), (109, 3)] := by kernel_rfl
theorem op_cells : Tryz.prog.cellsOf 111 = 4 := by kernel_rfl
theorem int_cells : Tryz.prog.cellsOf 3 = 1 := by kernel_rfl
theorem str_cells : Tryz.prog.cellsOf 9 = 1 := by kernel_rfl
theorem u64_cells : Tryz.prog.cellsOf 109 = 1 := by kernel_rfl
theorem ops_cells : Tryz.prog.cellsOf 105 = 1 := by kernel_rfl
theorem row_str {H : Type} {enc : TypeId × Value → H} {w : World} {base n : Nat} {held : Bool} {spare : Nat → Bool} {e : TypeId} {cs : List Value} {y : DataW H × List MemPlace} (he : Tryz.prog.underlying e = some .string) (h : DataW.trod enc Tryz.prog w base spare held n e cs = some y) :
    ∃ s : List UInt8, cs = [.string ⟨s.toArray⟩] := by
  obtain ⟨z, h1, _⟩ := DataW.trod_string he h
  exact ⟨z.data.toList, h1⟩
theorem map_all {α β : Type} (f : α → β) (E : List β) (h : ∀ r ∈ E, ∃ a, r = f a) : ∃ l : List α, E = l.map f := by
  induction E with
  | nil => exact ⟨[], rfl⟩
  | cons r E ih =>
    obtain ⟨s, rfl⟩ := h r (by simp)
    obtain ⟨l, rfl⟩ := ih (fun r hr => h r (by simp [hr]))
    exact ⟨s :: l, rfl⟩
theorem open_op {H : Type} {enc : TypeId × Value → H} {w : World} {base n : Nat} {held : Bool} {cs' : List Value} {y : DataW H × List MemPlace} (hl : cs'.length = 4) (hy : DataW.trod enc Tryz.prog w base (fun _ => true) held n 111 cs' = some y) :
    ∃ r : List HV, r.length = 4 ∧ (∃ o, r = opRow o) ∧ ∀ (k : Nat) (z : HV) (u : Value), r[k]? = some z → cs'[k]? = some u → VRel M0 [] w z u ∧ u.oneCell' = true := by
  obtain ⟨xs, m, _, _, _, hxl, hf⟩ := DataW.trod_struct op_fields hy
  have hfl := op_list
  generalize Tryz.prog.fieldsOf 111 = fs at hf hfl hxl
  obtain ⟨fs⟩ := fs
  have hlen : fs.length = 4 := by simpa using congrArg List.length hfl
  match fs, hlen with
  | [f0, f1, f2, f3], _ =>
    simp only [List.map_cons, List.map_nil, List.cons.injEq, Prod.mk.injEq, and_true] at hfl
    obtain ⟨⟨t0, o0⟩, ⟨t1, o1⟩, ⟨t2, o2⟩, ⟨t3, o3⟩⟩ := hfl
    match cs', hl with
    | [c0, c1, c2, c3], _ =>
      have g0 := hf 0 f0 rfl
      have g1 := hf 1 f1 rfl
      have g2 := hf 2 f2 rfl
      have g3 := hf 3 f3 rfl
      rw [t0, o0, int_cells] at g0
      rw [t1, o1, str_cells] at g1
      rw [t2, o2, str_cells] at g2
      rw [t3, o3, u64_cells] at g3
      obtain ⟨y0, e0⟩ := get_of_lt (l := xs) (n := 0) (by simp at hxl; omega)
      obtain ⟨y1, e1⟩ := get_of_lt (l := xs) (n := 1) (by simp at hxl; omega)
      obtain ⟨y2, e2⟩ := get_of_lt (l := xs) (n := 2) (by simp at hxl; omega)
      obtain ⟨y3, e3⟩ := get_of_lt (l := xs) (n := 3) (by simp at hxl; omega)
      obtain ⟨z0, w0, q0⟩ := row_int Tryz.underlying3 (g0.trans e0)
      obtain ⟨z1, q1⟩ := row_str Tryz.underlying9 (g1.trans e1)
      obtain ⟨z2, q2⟩ := row_str Tryz.underlying9 (g2.trans e2)
      obtain ⟨z3, w3, q3⟩ := row_int Tryz.underlying109 (g3.trans e3)
      simp at q0 q1 q2 q3
      subst q0 q1 q2 q3
      refine ⟨_, rfl, ⟨⟨z0, z1, z2, z3⟩, rfl⟩, fun k z u hz hu => ?_⟩
      match k with
      | 0 => simp [opRow] at hz hu; subst hz; subst hu; exact ⟨.int _ _, rfl⟩
      | 1 => simp [opRow] at hz hu; subst hz; subst hu; exact ⟨.str _, rfl⟩
      | 2 => simp [opRow] at hz hu; subst hz; subst hu; exact ⟨.str _, rfl⟩
      | 3 => simp [opRow] at hz hu; subst hz; subst hu; exact ⟨.int _ _, rfl⟩
      | k + 4 => simp [opRow] at hz
theorem open_list {H : Type} {enc : TypeId × Value → H} {w : World} {base fuel : Nat} {held : Bool} {cs : List Value} {x : DataW H × List MemPlace} (h : DataW.trod enc Tryz.prog w base (fun _ => true) held fuel 105 cs = some x) :
    ∃ (v : Value) (l : List OpH), cs = [v] ∧ VRel M0 [] w (.imm false (opRows l)) v := by
  obtain ⟨v, E, h1, h2, h3, _⟩ := vrel_rows Tryz.underlying105 op_cells (by omega) h (fun r => ∃ o, r = opRow o) fun n cs' y hl hy => open_op hl hy
  obtain ⟨l, rfl⟩ := map_all opRow E h3
  exact ⟨v, l, h1, h2⟩
theorem open_ops {H : Type} {enc : TypeId × Value → H} {w : World} {base fuel : Nat} {held : Bool} {cs : List Value} {x : DataW H × List MemPlace} (h : DataW.trod enc Tryz.prog w base (fun _ => true) held fuel 53 cs = some x) :
    ∃ (v : Value) (O : List (List OpH)), cs = [v] ∧ VRel M0 [] w (.imm false (opsRows O)) v ∧ True := by
  obtain ⟨v, E, h1, h2, h3, _⟩ := vrel_rows Tryz.underlying53 ops_cells (by omega) h (fun r => ∃ l, r = [.imm false (opRows l)]) fun n cs' y hl hy => by
    obtain ⟨v, l, rfl, hv⟩ := open_list hy
    exact ⟨_, rfl, ⟨l, rfl⟩, one_row hv (by cases hv; rfl)⟩
  obtain ⟨O, rfl⟩ := map_all (fun l => [HV.imm false (opRows l)]) E h3
  exact ⟨v, O, h1, h2, trivial⟩
end Go.Proofs.YtocplecibgckoaaGreat
