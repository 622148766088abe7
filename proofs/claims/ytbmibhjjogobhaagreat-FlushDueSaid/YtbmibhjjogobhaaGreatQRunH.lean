/-
Copies of slices: a new piece with what was there.
No conditions.
-/
import Derived.Test.YtbmibhjjogobhaaGreatQRunG
import Derived.Test.YtbmibhjjogobhaaGreatQFactsA
set_option linter.unusedSectionVars false
set_option linter.unusedSimpArgs false
set_option linter.unusedVariables false
namespace Go.Proofs.YtbmibhjjogobhaaGreat
open Go Go.Eng
variable [zB]
set_option maxRecDepth 20000
attribute [local irreducible] hvc zf hop zg yI zb zu yQ
theorem zRu (PS:PL) (t:Bool) (E:List (List HV)) (hE:∀r∈E,r.length=1) (hr:zr E.length 8):zI Tryz.prog 179 [.imm t E] PS fun r PS'=>r=.sl PS.length 0 0 E.length none∧PS'=PS++[.arr 0 1 E true]:=by
 refine zI.nil 1 ?_
 refine zDX (by unfold Tryz.f179;exact rfl) ?_
 by_cases h0:E=[]
 ·subst h0
  simp only[go_sem,seval, -List.reduceReplicate]
  exact⟨by simp,by simp⟩
 ·simp only[go_sem,seval, -List.reduceReplicate,h0,List.length_nil,List.nil_append]
  exact⟨fun h=>h.elim,hE,by simp,by simpa [zr] using hr⟩
theorem zQD (PS:PL) (n ver i len:Nat) (c:Option Nat) (sz:Nat) (E:List (List HV)) (o:Bool) (hg:zA PS n=.arr ver sz E o) (hs:len=0∨sz=1) (hi:i+len≤E.length) (hr:zr len 8):
  zI Tryz.prog 179 [.sl n ver i len c] PS fun r PS'=>r=.sl PS.length 0 0 len none∧PS'=PS++[.arr 0 1 ((E.drop i).take len) true]:=by
 refine zI.nil 1 ?_
 refine zDX (by unfold Tryz.f179;exact rfl) ?_
 have hlen:((E.drop i).take len).length=len:=by simp;omega
 by_cases h0:len=0
 ·subst h0
  simp only[go_sem,seval, -List.reduceReplicate,hg]
  exact⟨⟨hi,by simp⟩,fun h=>h.elim⟩
 ·simp only[go_sem,seval, -List.reduceReplicate,h0,hg]
  exact⟨fun h=>h.elim,by omega,hi,by simp,by rw[hlen];simpa [zr] using hr,by rw[hlen]⟩
theorem zRl (PS:PL) (t:Bool) (E:List (List HV)) (hE:∀r∈E,r.length=2) (hr:zr E.length 16):zI Tryz.prog 195 [.imm t E] PS fun r PS'=>r=.sl PS.length 0 0 E.length none∧PS'=PS++[.arr 0 2 E true]:=by
 refine zI.nil 2 ?_
 refine zDD (by unfold Tryz.f195;exact rfl) ?_
 by_cases h0:E=[]
 ·subst h0
  simp only[go_sem,seval, -List.reduceReplicate]
  exact⟨by simp,by simp⟩
 ·simp only[go_sem,seval, -List.reduceReplicate,h0,List.length_nil,List.nil_append]
  exact⟨fun h=>h.elim,hE,by simp,by simpa [zr] using hr⟩
theorem zRc (PS:PL) (n ver i len:Nat) (c:Option Nat) (sz:Nat) (E:List (List HV)) (o:Bool) (hg:zA PS n=.arr ver sz E o) (hs:len=0∨sz=2) (hi:i+len≤E.length) (hr:zr len 16):
  zI Tryz.prog 195 [.sl n ver i len c] PS fun r PS'=>r=.sl PS.length 0 0 len none∧PS'=PS++[.arr 0 2 ((E.drop i).take len) true]:=by
 refine zI.nil 2 ?_
 refine zDD (by unfold Tryz.f195;exact rfl) ?_
 have hlen:((E.drop i).take len).length=len:=by simp;omega
 by_cases h0:len=0
 ·subst h0
  simp only[go_sem,seval, -List.reduceReplicate,hg]
  exact⟨⟨hi,by simp⟩,fun h=>h.elim⟩
 ·simp only[go_sem,seval, -List.reduceReplicate,h0,hg]
  exact⟨fun h=>h.elim,by omega,hi,by simp,by rw[hlen];simpa [zr] using hr,by rw[hlen]⟩
theorem zBY (PS:PL) (t:Bool) (E:List (List HV)) (hE:∀r∈E,r.length=26) (hr:zr E.length 40):zI Tryz.prog 178 [.imm t E] PS fun r PS'=>r=.sl PS.length 0 0 E.length none∧PS'=PS++[.arr 0 26 E true]:=by
 refine zI.nil 26 ?_
 refine zEz (by unfold Tryz.f178;exact rfl) ?_
 by_cases h0:E=[]
 ·subst h0
  simp only[go_sem,seval, -List.reduceReplicate]
  exact⟨by simp,by simp⟩
 ·simp only[go_sem,seval, -List.reduceReplicate,h0,List.length_nil,List.nil_append]
  exact⟨fun h=>h.elim,hE,by simp,by simpa [zr] using hr⟩
theorem zOY (PS:PL) (n ver i len:Nat) (c:Option Nat) (sz:Nat) (E:List (List HV)) (o:Bool) (hg:zA PS n=.arr ver sz E o) (hs:len=0∨sz=26) (hi:i+len≤E.length) (hr:zr len 40):
  zI Tryz.prog 178 [.sl n ver i len c] PS fun r PS'=>r=.sl PS.length 0 0 len none∧PS'=PS++[.arr 0 26 ((E.drop i).take len) true]:=by
 refine zI.nil 26 ?_
 refine zEz (by unfold Tryz.f178;exact rfl) ?_
 have hlen:((E.drop i).take len).length=len:=by simp;omega
 by_cases h0:len=0
 ·subst h0
  simp only[go_sem,seval, -List.reduceReplicate,hg]
  exact⟨⟨hi,by simp⟩,fun h=>h.elim⟩
 ·simp only[go_sem,seval, -List.reduceReplicate,h0,hg]
  exact⟨fun h=>h.elim,by omega,hi,by simp,by rw[hlen];simpa [zr] using hr,by rw[hlen]⟩
theorem zEV (PS:PL) (t:Bool) (E:List (List HV)) (hE:∀r∈E,r.length=9) (hr:zr E.length 16):zI Tryz.prog 180 [.imm t E] PS fun r PS'=>r=.sl PS.length 0 0 E.length none∧PS'=PS++[.arr 0 9 E true]:=by
 refine zI.nil 9 ?_
 refine zB1 (by unfold Tryz.f180;exact rfl) ?_
 by_cases h0:E=[]
 ·subst h0
  simp only[go_sem,seval, -List.reduceReplicate]
  exact⟨by simp,by simp⟩
 ·simp only[go_sem,seval, -List.reduceReplicate,h0,List.length_nil,List.nil_append]
  exact⟨fun h=>h.elim,hE,by simp,by simpa [zr] using hr⟩
theorem zIm (PS:PL) (n ver i len:Nat) (c:Option Nat) (sz:Nat) (E:List (List HV)) (o:Bool) (hg:zA PS n=.arr ver sz E o) (hs:len=0∨sz=9) (hi:i+len≤E.length) (hr:zr len 16):
  zI Tryz.prog 180 [.sl n ver i len c] PS fun r PS'=>r=.sl PS.length 0 0 len none∧PS'=PS++[.arr 0 9 ((E.drop i).take len) true]:=by
 refine zI.nil 9 ?_
 refine zB1 (by unfold Tryz.f180;exact rfl) ?_
 have hlen:((E.drop i).take len).length=len:=by simp;omega
 by_cases h0:len=0
 ·subst h0
  simp only[go_sem,seval, -List.reduceReplicate,hg]
  exact⟨⟨hi,by simp⟩,fun h=>h.elim⟩
 ·simp only[go_sem,seval, -List.reduceReplicate,h0,hg]
  exact⟨fun h=>h.elim,by omega,hi,by simp,by rw[hlen];simpa [zr] using hr,by rw[hlen]⟩
theorem zC2 (PS:PL) (t:Bool) (E:List (List HV)) (hE:∀r∈E,r.length=29) (hr:zr E.length 64):zI Tryz.prog 181 [.imm t E] PS fun r PS'=>r=.sl PS.length 0 0 E.length none∧PS'=PS++[.arr 0 29 E true]:=by
 refine zI.nil 29 ?_
 refine zE0 (by unfold Tryz.f181;exact rfl) ?_
 by_cases h0:E=[]
 ·subst h0
  simp only[go_sem,seval, -List.reduceReplicate]
  exact⟨by simp,by simp⟩
 ·simp only[go_sem,seval, -List.reduceReplicate,h0,List.length_nil,List.nil_append]
  exact⟨fun h=>h.elim,hE,by simp,by simpa [zr] using hr⟩
theorem zMg (PS:PL) (n ver i len:Nat) (c:Option Nat) (sz:Nat) (E:List (List HV)) (o:Bool) (hg:zA PS n=.arr ver sz E o) (hs:len=0∨sz=29) (hi:i+len≤E.length) (hr:zr len 64):
  zI Tryz.prog 181 [.sl n ver i len c] PS fun r PS'=>r=.sl PS.length 0 0 len none∧PS'=PS++[.arr 0 29 ((E.drop i).take len) true]:=by
 refine zI.nil 29 ?_
 refine zE0 (by unfold Tryz.f181;exact rfl) ?_
 have hlen:((E.drop i).take len).length=len:=by simp;omega
 by_cases h0:len=0
 ·subst h0
  simp only[go_sem,seval, -List.reduceReplicate,hg]
  exact⟨⟨hi,by simp⟩,fun h=>h.elim⟩
 ·simp only[go_sem,seval, -List.reduceReplicate,h0,hg]
  exact⟨fun h=>h.elim,by omega,hi,by simp,by rw[hlen];simpa [zr] using hr,by rw[hlen]⟩
theorem zKQ (PS:PL) (t:Bool) (E:List (List HV)) (hE:∀r∈E,r.length=1) (hr:zr E.length 1):zI Tryz.prog 171 [.imm t E] PS fun r PS'=>r=.sl PS.length 0 0 E.length none∧PS'=PS++[.arr 0 1 E true]:=by
 refine zI.nil 1 ?_
 refine zAp (by unfold Tryz.f171;exact rfl) ?_
 by_cases h0:E=[]
 ·subst h0
  simp only[go_sem,seval, -List.reduceReplicate]
  exact⟨by simp,by simp⟩
 ·simp only[go_sem,seval, -List.reduceReplicate,h0,List.length_nil,List.nil_append]
  exact⟨fun h=>h.elim,hE,by simp,by simpa [zr] using hr⟩
theorem zNq (PS:PL) (n ver i len:Nat) (c:Option Nat) (sz:Nat) (E:List (List HV)) (o:Bool) (hg:zA PS n=.arr ver sz E o) (hs:len=0∨sz=1) (hi:i+len≤E.length) (hr:zr len 1):
  zI Tryz.prog 171 [.sl n ver i len c] PS fun r PS'=>r=.sl PS.length 0 0 len none∧PS'=PS++[.arr 0 1 ((E.drop i).take len) true]:=by
 refine zI.nil 1 ?_
 refine zAp (by unfold Tryz.f171;exact rfl) ?_
 have hlen:((E.drop i).take len).length=len:=by simp;omega
 by_cases h0:len=0
 ·subst h0
  simp only[go_sem,seval, -List.reduceReplicate,hg]
  exact⟨⟨hi,by simp⟩,fun h=>h.elim⟩
 ·simp only[go_sem,seval, -List.reduceReplicate,h0,hg]
  exact⟨fun h=>h.elim,by omega,hi,by simp,by rw[hlen];simpa [zr] using hr,by rw[hlen]⟩
theorem zEo (PS:PL) (t:Bool) (E:List (List HV)) (hE:∀r∈E,r.length=1) (hr:zr E.length 1):zI Tryz.prog 182 [.imm t E] PS fun r PS'=>r=.sl PS.length 0 0 E.length none∧PS'=PS++[.arr 0 1 E true]:=by
 refine zI.nil 1 ?_
 refine zFa (by unfold Tryz.f182;exact rfl) ?_
 by_cases h0:E=[]
 ·subst h0
  simp only[go_sem,seval, -List.reduceReplicate]
  exact⟨by simp,by simp⟩
 ·simp only[go_sem,seval, -List.reduceReplicate,h0,List.length_nil,List.nil_append]
  exact⟨fun h=>h.elim,hE,by simp,by simpa [zr] using hr⟩
theorem zJt (PS:PL) (n ver i len:Nat) (c:Option Nat) (sz:Nat) (E:List (List HV)) (o:Bool) (hg:zA PS n=.arr ver sz E o) (hs:len=0∨sz=1) (hi:i+len≤E.length) (hr:zr len 1):
  zI Tryz.prog 182 [.sl n ver i len c] PS fun r PS'=>r=.sl PS.length 0 0 len none∧PS'=PS++[.arr 0 1 ((E.drop i).take len) true]:=by
 refine zI.nil 1 ?_
 refine zFa (by unfold Tryz.f182;exact rfl) ?_
 have hlen:((E.drop i).take len).length=len:=by simp;omega
 by_cases h0:len=0
 ·subst h0
  simp only[go_sem,seval, -List.reduceReplicate,hg]
  exact⟨⟨hi,by simp⟩,fun h=>h.elim⟩
 ·simp only[go_sem,seval, -List.reduceReplicate,h0,hg]
  exact⟨fun h=>h.elim,by omega,hi,by simp,by rw[hlen];simpa [zr] using hr,by rw[hlen]⟩
theorem vN (v n:Int) (h0:0<n) (h1:n≤9223372036854775807):Pure Tryz.prog 10 [.int .i64 v,.int .i64 n] (.int .i64 (v % n)):=by
 intro PS
 refine zNR (by unfold Tryz.f10;exact rfl) ?_
 simp only[go_sem,seval, -List.reduceReplicate]
 have h2:=Int.emod_lt_of_pos v h0
 have h3:=Int.emod_nonneg v (Int.ne_of_gt h0)
 have h4:v.tmod n=v % n∨v.tmod n=v % n - n:=by
  rw[Int.tmod_eq_emod]
  split
  ·left;omega
  ·right;rw[Int.natAbs_of_nonneg (Int.le_of_lt h0)]
 refine⟨by omega,?_⟩
 rcases h4 with h4 | h4
 ·rw[if_neg (by omega),h4]
 ·rw[if_pos (by omega),h4]
  exact⟨by omega,by rw[Int.sub_add_cancel]⟩
end Go.Proofs.YtbmibhjjogobhaaGreat
