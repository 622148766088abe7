import Derived.Test.YtpegkffdhpdciaaStN
import Derived.Test.YtpegkffdhpdciaaEngZ
namespace Go.Proofs.Ytpegkffdhpdciaa
open Go Go.Eng Go.ChangeShapes Go.WideShapes Go.RowKit Go.Deep
set_option maxRecDepth 20000
theorem step_fields : Try.prog.underlying 44 = some (.struct (Try.prog.fieldsOf 44)) := by kernel_rfl
theorem step_list : (Try.prog.fieldsOf 44).toList.map (fun f => (f.type, f.offset)) = [(3, 0), (3, 1), (3, 2), (5, 3)] := by kernel_rfl
theorem step_cells : Try.prog.cellsOf 44 = 4 := by kernel_rfl
theorem int_cells : Try.prog.cellsOf 3 = 1 := by kernel_rfl
theorem byte_cells : Try.prog.cellsOf 5 = 1 := by kernel_rfl
theorem open_steps {H : Type} {enc : TypeId × Value → H} {w : World} {base fuel : Nat} {held : Bool} {cs : List Value} {x : DataW H × List MemPlace} (h : DataW.trod enc Try.prog w base (fun _ => true) held fuel 39 cs = some x) :
    ∃ (v : Value) (l : List Stp), cs = [v] ∧ VRel M0 [] w (.imm false (l.map stpH)) v ∧ ∀ s ∈ l, InR64 s.what ∧ InR64 s.id ∧ InR64 s.long := by
  obtain ⟨v, E, h1, h2, h3, hm⟩ := vrel_rows Try.underlying39 step_cells (by omega) h (fun r => ∃ s : Stp, r = stpH s ∧ InR64 s.what ∧ InR64 s.id ∧ InR64 s.long) (fun n cs' y hl hy => by
    obtain ⟨xs, m, _, _, _, hxl, hf⟩ := DataW.trod_struct step_fields hy
    have hfl := step_list
    generalize Try.prog.fieldsOf 44 = fs at hf hfl hxl
    obtain ⟨fs⟩ := fs
    have hlen : fs.length = 4 := by simpa using congrArg List.length hfl
    match fs, hlen with
    | [f0, f1, f2, f3], _ =>
      simp only [List.map_cons, List.map_nil, List.cons.injEq, Prod.mk.injEq, and_true] at hfl
      obtain ⟨⟨t0, o0⟩, ⟨t1, o1⟩, ⟨t2, o2⟩, ⟨t3, o3⟩⟩ := hfl
      match cs', hl with
      | [c0, c1, c2, c3], _ =>
        have g0 := hf 0 f0 rfl
        have g1 := hf 1 f1 rfl
        have g2 := hf 2 f2 rfl
        have g3 := hf 3 f3 rfl
        rw [t0, o0, int_cells] at g0
        rw [t1, o1, int_cells] at g1
        rw [t2, o2, int_cells] at g2
        rw [t3, o3, byte_cells] at g3
        obtain ⟨y0, e0⟩ := get_of_lt (l := xs) (n := 0) (by simp at hxl; omega)
        obtain ⟨y1, e1⟩ := get_of_lt (l := xs) (n := 1) (by simp at hxl; omega)
        obtain ⟨y2, e2⟩ := get_of_lt (l := xs) (n := 2) (by simp at hxl; omega)
        obtain ⟨y3, e3⟩ := get_of_lt (l := xs) (n := 3) (by simp at hxl; omega)
        obtain ⟨z0, w0, q0⟩ := row_int Try.underlying3 (g0.trans e0)
        obtain ⟨z1, w1, q1⟩ := row_int Try.underlying3 (g1.trans e1)
        obtain ⟨z2, w2, q2⟩ := row_int Try.underlying3 (g2.trans e2)
        obtain ⟨z3, w3, q3⟩ := row_int Try.underlying5 (g3.trans e3)
        simp at q0 q1 q2 q3
        subst q0 q1 q2 q3
        obtain ⟨b, rfl⟩ := u8_of_wf w3
        refine ⟨_, rfl, ⟨⟨z0, z1, z2, b⟩, rfl, i64_of_wf w0, i64_of_wf w1, i64_of_wf w2⟩, fun k z u hz hu => ?_⟩
        match k with
        | 0 => simp [stpH] at hz hu; subst hz; subst hu; exact ⟨.int _ _, rfl⟩
        | 1 => simp [stpH] at hz hu; subst hz; subst hu; exact ⟨.int _ _, rfl⟩
        | 2 => simp [stpH] at hz hu; subst hz; subst hu; exact ⟨.int _ _, rfl⟩
        | 3 => simp [stpH] at hz hu; subst hz; subst hu; exact ⟨.int _ _, rfl⟩
        | k + 4 => simp [stpH] at hz)
  have : ∃ l : List Stp, E = l.map stpH ∧ ∀ s ∈ l, InR64 s.what ∧ InR64 s.id ∧ InR64 s.long := by
    clear h2 hm
    induction E with
    | nil => exact ⟨[], rfl, by simp⟩
    | cons r E ih =>
      obtain ⟨s, rfl, hs⟩ := h3 r (by simp)
      obtain ⟨l, rfl, hl⟩ := ih (fun r hr => h3 r (by simp [hr]))
      refine ⟨s :: l, rfl, fun t ht => ?_⟩
      rcases List.mem_cons.1 ht with rfl | ht
      · exact hs
      · exact hl t ht
  obtain ⟨l, rfl, hl⟩ := this
  exact ⟨v, l, h1, h2, hl⟩
end Go.Proofs.Ytpegkffdhpdciaa
