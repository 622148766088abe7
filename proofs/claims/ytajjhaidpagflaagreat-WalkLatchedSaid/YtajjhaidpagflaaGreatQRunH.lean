/-
Copies of slices: a new piece with what was there.
No conditions.
-/
import Derived.Test.YtajjhaidpagflaaGreatQRunG
import Derived.Test.YtajjhaidpagflaaGreatQFactsA
set_option linter.unusedSectionVars false
set_option linter.unusedSimpArgs false
set_option linter.unusedVariables false
namespace Go.Proofs.YtajjhaidpagflaaGreat
open Go Go.Eng
variable [Toks]
set_option maxRecDepth 20000
attribute [local irreducible] hvc hops hop hplan hdrawP hval1 hopD HLoop
theorem cl_int_imm (PS:PL) (t:Bool) (E:List (List HV)) (hE:∀r∈E,r.length=1) (hr:hroom E.length 8):HCall Tryz.prog 153 [.imm t E] PS fun r PS'=>r=.sl PS.length 0 0 E.length none∧PS'=PS++[.arr 0 1 E true]:=by
  refine HCall.nil 1 ?_
  refine enter_153 (by unfold Tryz.f153;exact rfl) ?_
  by_cases h0:E=[]
  · subst h0
    simp only[go_sem,seval, -List.reduceReplicate]
    exact⟨by simp,by simp⟩
  · simp only[go_sem,seval, -List.reduceReplicate,h0,List.length_nil,List.nil_append]
    exact⟨fun h=>h.elim,hE,by simp,by simpa [hroom] using hr⟩
theorem cl_int_sl (PS:PL) (n ver i len:Nat) (c:Option Nat) (sz:Nat) (E:List (List HV)) (o:Bool) (hg:getP PS n=.arr ver sz E o) (hs:len=0∨sz=1) (hi:i+len≤E.length) (hr:hroom len 8):
    HCall Tryz.prog 153 [.sl n ver i len c] PS fun r PS'=>r=.sl PS.length 0 0 len none∧PS'=PS++[.arr 0 1 ((E.drop i).take len) true]:=by
  refine HCall.nil 1 ?_
  refine enter_153 (by unfold Tryz.f153;exact rfl) ?_
  have hlen:((E.drop i).take len).length=len:=by simp;omega
  by_cases h0:len=0
  · subst h0
    simp only[go_sem,seval, -List.reduceReplicate,hg]
    exact⟨⟨hi,by simp⟩,fun h=>h.elim⟩
  · simp only[go_sem,seval, -List.reduceReplicate,h0,hg]
    exact⟨fun h=>h.elim,by omega,hi,by simp,by rw[hlen];simpa [hroom] using hr,by rw[hlen]⟩
theorem cl_want_imm (PS:PL) (t:Bool) (E:List (List HV)) (hE:∀r∈E,r.length=2) (hr:hroom E.length 16):HCall Tryz.prog 92 [.imm t E] PS fun r PS'=>r=.sl PS.length 0 0 E.length none∧PS'=PS++[.arr 0 2 E true]:=by
  refine HCall.nil 2 ?_
  refine enter_92 (by unfold Tryz.f92;exact rfl) ?_
  by_cases h0:E=[]
  · subst h0
    simp only[go_sem,seval, -List.reduceReplicate]
    exact⟨by simp,by simp⟩
  · simp only[go_sem,seval, -List.reduceReplicate,h0,List.length_nil,List.nil_append]
    exact⟨fun h=>h.elim,hE,by simp,by simpa [hroom] using hr⟩
theorem cl_want_sl (PS:PL) (n ver i len:Nat) (c:Option Nat) (sz:Nat) (E:List (List HV)) (o:Bool) (hg:getP PS n=.arr ver sz E o) (hs:len=0∨sz=2) (hi:i+len≤E.length) (hr:hroom len 16):
    HCall Tryz.prog 92 [.sl n ver i len c] PS fun r PS'=>r=.sl PS.length 0 0 len none∧PS'=PS++[.arr 0 2 ((E.drop i).take len) true]:=by
  refine HCall.nil 2 ?_
  refine enter_92 (by unfold Tryz.f92;exact rfl) ?_
  have hlen:((E.drop i).take len).length=len:=by simp;omega
  by_cases h0:len=0
  · subst h0
    simp only[go_sem,seval, -List.reduceReplicate,hg]
    exact⟨⟨hi,by simp⟩,fun h=>h.elim⟩
  · simp only[go_sem,seval, -List.reduceReplicate,h0,hg]
    exact⟨fun h=>h.elim,by omega,hi,by simp,by rw[hlen];simpa [hroom] using hr,by rw[hlen]⟩
theorem cl_ent_imm (PS:PL) (t:Bool) (E:List (List HV)) (hE:∀r∈E,r.length=26) (hr:hroom E.length 40):HCall Tryz.prog 152 [.imm t E] PS fun r PS'=>r=.sl PS.length 0 0 E.length none∧PS'=PS++[.arr 0 26 E true]:=by
  refine HCall.nil 26 ?_
  refine enter_152 (by unfold Tryz.f152;exact rfl) ?_
  by_cases h0:E=[]
  · subst h0
    simp only[go_sem,seval, -List.reduceReplicate]
    exact⟨by simp,by simp⟩
  · simp only[go_sem,seval, -List.reduceReplicate,h0,List.length_nil,List.nil_append]
    exact⟨fun h=>h.elim,hE,by simp,by simpa [hroom] using hr⟩
theorem cl_ent_sl (PS:PL) (n ver i len:Nat) (c:Option Nat) (sz:Nat) (E:List (List HV)) (o:Bool) (hg:getP PS n=.arr ver sz E o) (hs:len=0∨sz=26) (hi:i+len≤E.length) (hr:hroom len 40):
    HCall Tryz.prog 152 [.sl n ver i len c] PS fun r PS'=>r=.sl PS.length 0 0 len none∧PS'=PS++[.arr 0 26 ((E.drop i).take len) true]:=by
  refine HCall.nil 26 ?_
  refine enter_152 (by unfold Tryz.f152;exact rfl) ?_
  have hlen:((E.drop i).take len).length=len:=by simp;omega
  by_cases h0:len=0
  · subst h0
    simp only[go_sem,seval, -List.reduceReplicate,hg]
    exact⟨⟨hi,by simp⟩,fun h=>h.elim⟩
  · simp only[go_sem,seval, -List.reduceReplicate,h0,hg]
    exact⟨fun h=>h.elim,by omega,hi,by simp,by rw[hlen];simpa [hroom] using hr,by rw[hlen]⟩
theorem cl_key_imm (PS:PL) (t:Bool) (E:List (List HV)) (hE:∀r∈E,r.length=9) (hr:hroom E.length 16):HCall Tryz.prog 154 [.imm t E] PS fun r PS'=>r=.sl PS.length 0 0 E.length none∧PS'=PS++[.arr 0 9 E true]:=by
  refine HCall.nil 9 ?_
  refine enter_154 (by unfold Tryz.f154;exact rfl) ?_
  by_cases h0:E=[]
  · subst h0
    simp only[go_sem,seval, -List.reduceReplicate]
    exact⟨by simp,by simp⟩
  · simp only[go_sem,seval, -List.reduceReplicate,h0,List.length_nil,List.nil_append]
    exact⟨fun h=>h.elim,hE,by simp,by simpa [hroom] using hr⟩
theorem cl_key_sl (PS:PL) (n ver i len:Nat) (c:Option Nat) (sz:Nat) (E:List (List HV)) (o:Bool) (hg:getP PS n=.arr ver sz E o) (hs:len=0∨sz=9) (hi:i+len≤E.length) (hr:hroom len 16):
    HCall Tryz.prog 154 [.sl n ver i len c] PS fun r PS'=>r=.sl PS.length 0 0 len none∧PS'=PS++[.arr 0 9 ((E.drop i).take len) true]:=by
  refine HCall.nil 9 ?_
  refine enter_154 (by unfold Tryz.f154;exact rfl) ?_
  have hlen:((E.drop i).take len).length=len:=by simp;omega
  by_cases h0:len=0
  · subst h0
    simp only[go_sem,seval, -List.reduceReplicate,hg]
    exact⟨⟨hi,by simp⟩,fun h=>h.elim⟩
  · simp only[go_sem,seval, -List.reduceReplicate,h0,hg]
    exact⟨fun h=>h.elim,by omega,hi,by simp,by rw[hlen];simpa [hroom] using hr,by rw[hlen]⟩
theorem cl_msg_imm (PS:PL) (t:Bool) (E:List (List HV)) (hE:∀r∈E,r.length=29) (hr:hroom E.length 64):HCall Tryz.prog 155 [.imm t E] PS fun r PS'=>r=.sl PS.length 0 0 E.length none∧PS'=PS++[.arr 0 29 E true]:=by
  refine HCall.nil 29 ?_
  refine enter_155 (by unfold Tryz.f155;exact rfl) ?_
  by_cases h0:E=[]
  · subst h0
    simp only[go_sem,seval, -List.reduceReplicate]
    exact⟨by simp,by simp⟩
  · simp only[go_sem,seval, -List.reduceReplicate,h0,List.length_nil,List.nil_append]
    exact⟨fun h=>h.elim,hE,by simp,by simpa [hroom] using hr⟩
theorem cl_msg_sl (PS:PL) (n ver i len:Nat) (c:Option Nat) (sz:Nat) (E:List (List HV)) (o:Bool) (hg:getP PS n=.arr ver sz E o) (hs:len=0∨sz=29) (hi:i+len≤E.length) (hr:hroom len 64):
    HCall Tryz.prog 155 [.sl n ver i len c] PS fun r PS'=>r=.sl PS.length 0 0 len none∧PS'=PS++[.arr 0 29 ((E.drop i).take len) true]:=by
  refine HCall.nil 29 ?_
  refine enter_155 (by unfold Tryz.f155;exact rfl) ?_
  have hlen:((E.drop i).take len).length=len:=by simp;omega
  by_cases h0:len=0
  · subst h0
    simp only[go_sem,seval, -List.reduceReplicate,hg]
    exact⟨⟨hi,by simp⟩,fun h=>h.elim⟩
  · simp only[go_sem,seval, -List.reduceReplicate,h0,hg]
    exact⟨fun h=>h.elim,by omega,hi,by simp,by rw[hlen];simpa [hroom] using hr,by rw[hlen]⟩
theorem cl_byte_imm (PS:PL) (t:Bool) (E:List (List HV)) (hE:∀r∈E,r.length=1) (hr:hroom E.length 1):HCall Tryz.prog 141 [.imm t E] PS fun r PS'=>r=.sl PS.length 0 0 E.length none∧PS'=PS++[.arr 0 1 E true]:=by
  refine HCall.nil 1 ?_
  refine enter_141 (by unfold Tryz.f141;exact rfl) ?_
  by_cases h0:E=[]
  · subst h0
    simp only[go_sem,seval, -List.reduceReplicate]
    exact⟨by simp,by simp⟩
  · simp only[go_sem,seval, -List.reduceReplicate,h0,List.length_nil,List.nil_append]
    exact⟨fun h=>h.elim,hE,by simp,by simpa [hroom] using hr⟩
theorem cl_byte_sl (PS:PL) (n ver i len:Nat) (c:Option Nat) (sz:Nat) (E:List (List HV)) (o:Bool) (hg:getP PS n=.arr ver sz E o) (hs:len=0∨sz=1) (hi:i+len≤E.length) (hr:hroom len 1):
    HCall Tryz.prog 141 [.sl n ver i len c] PS fun r PS'=>r=.sl PS.length 0 0 len none∧PS'=PS++[.arr 0 1 ((E.drop i).take len) true]:=by
  refine HCall.nil 1 ?_
  refine enter_141 (by unfold Tryz.f141;exact rfl) ?_
  have hlen:((E.drop i).take len).length=len:=by simp;omega
  by_cases h0:len=0
  · subst h0
    simp only[go_sem,seval, -List.reduceReplicate,hg]
    exact⟨⟨hi,by simp⟩,fun h=>h.elim⟩
  · simp only[go_sem,seval, -List.reduceReplicate,h0,hg]
    exact⟨fun h=>h.elim,by omega,hi,by simp,by rw[hlen];simpa [hroom] using hr,by rw[hlen]⟩
theorem place_ (v n:Int) (h0:0<n) (h1:n≤9223372036854775807):Pure Tryz.prog 19 [.int .i64 v,.int .i64 n] (.int .i64 (v % n)):=by
  intro PS
  refine enter_19 (by unfold Tryz.f19;exact rfl) ?_
  simp only[go_sem,seval, -List.reduceReplicate]
  have h2:=Int.emod_lt_of_pos v h0
  have h3:=Int.emod_nonneg v (Int.ne_of_gt h0)
  have h4:v.tmod n=v % n∨v.tmod n=v % n - n:=by
    rw[Int.tmod_eq_emod]
    split
    · left;omega
    · right;rw[Int.natAbs_of_nonneg (Int.le_of_lt h0)]
  refine⟨by omega,?_⟩
  rcases h4 with h4 | h4
  · rw[if_neg (by omega),h4]
  · rw[if_pos (by omega),h4]
    exact⟨by omega,by rw[Int.sub_add_cancel]⟩
end Go.Proofs.YtajjhaidpagflaaGreat
