/-
The law FlushDue, run: rows and numbers by name; what the runs know.
No conditions.
-/
import Derived.Test.YtbmibhjjogobhaaGreatQTbA
import Derived.Test.YtbmibhjjogobhaaGreatQTbB
set_option linter.unusedSectionVars false
set_option linter.unusedSimpArgs false
set_option linter.unusedVariables false
noncomputable section
namespace Go.Proofs.YtbmibhjjogobhaaGreat
open Go Go.Eng
set_option maxRecDepth 100000
/-- What is known of the rows by name. -/
structure qI (R:Nat→List (List HV)) (N:Nat→Int) (p c:Nat) (b:Bool):Prop where
 r2:R 2=YV++R 1
 n1:R 1≠[]
 s1:∀r∈R 1,r.length=1
 l1:(R 1).length≤17592186044400
 fl:∀i,Flat (.imm false (R i))
 cnt:(R p).length=c
 low:(R 6).length=1
 lo:(bif b then 103 else 0)≤N 41
 hi:N 41≤(bif b then 205 else 102)
 two:N 42=N 41+N 41
abbrev fdT (R:Nat→List (List HV)) (N:Nat→Int) (p c:Nat) (b:Bool) (h:qI R N p c b):zB where
 num i:=bif Nat.beq i 0 then Int.ofNat c else bif Nat.beq i 1 then Int.ofNat (nat_lit 1) else N i
 str _:=[]
 lo i:=bif Nat.beq i 0 then Int.ofNat c else bif Nat.beq i 1 then Int.ofNat (nat_lit 1) else bif Nat.beq i 41 then (bif b then 103 else 0) else bif Nat.beq i 42 then (bif b then 206 else 0) else N i
 hi i:=bif Nat.beq i 0 then Int.ofNat c else bif Nat.beq i 1 then Int.ofNat (nat_lit 1) else bif Nat.beq i 41 then (bif b then 205 else 102) else bif Nat.beq i 42 then (bif b then 410 else 204) else N i
 plus _ _:=none
 sum i j:=bif Nat.beq i 41&&Nat.beq j 41 then some 42 else none
 conv _ _:=none
 slen _:=none
 ord _ _:=none
 rem _ _:=none
 dt _:=false
 rows i:=R i
 rlen i:=bif Nat.beq i p then some 0 else bif Nat.beq i 6 then some 1 else none
 cat E i:=bif KO E YV&&Nat.beq i 1 then some 2 else none
 rng i:=by
  have h1:=h.lo
  have h2:=h.hi
  have h3:=h.two
  dsimp only
  cases h0:Nat.beq i 0
  ·cases h1':Nat.beq i 1
   ·cases h4:Nat.beq i 41
    ·cases h5:Nat.beq i 42
     ·exact⟨Int.le_refl _,Int.le_refl _⟩
     ·obtain rfl:=Nat.eq_of_beq_eq_true h5
      cases b<;>simp only[cond_true,cond_false] at h1 h2 ⊢<;>omega
    ·obtain rfl:=Nat.eq_of_beq_eq_true h4
     exact⟨h1,h2⟩
   ·exact⟨Int.le_refl _,Int.le_refl _⟩
  ·exact⟨Int.le_refl _,Int.le_refl _⟩
 plus_ok _ _ _ h:=by cases h
 sum_ok i j l hl:=by
  cases hb:Nat.beq i 41&&Nat.beq j 41
  ·rw[hb] at hl;cases hl
  ·rw[hb] at hl
   cases hl
   rw[Bool.and_eq_true] at hb
   obtain rfl:=Nat.eq_of_beq_eq_true hb.1
   obtain rfl:=Nat.eq_of_beq_eq_true hb.2
   exact h.two
 conv_ok _ _ _ h:=by cases h
 slen_ok _ _ h:=by cases h
 ord_ok _ _ _ h:=by cases h
 rem_ok _ _ _ h:=by cases h
 flat i:=h.fl i
 rlen_ok i j hj:=by
  cases hb:Nat.beq i p
  ·rw[hb] at hj
   cases hb:Nat.beq i 6
   ·rw[hb] at hj;cases hj
   ·rw[hb] at hj
    cases hj
    obtain rfl:=Nat.eq_of_beq_eq_true hb
    exact congrArg Int.ofNat h.low.symm
  ·rw[hb] at hj
   cases hj
   obtain rfl:=Nat.eq_of_beq_eq_true hb
   exact congrArg Int.ofNat h.cnt.symm
 cat_ok E i j hj:=by
  letI:zB:=zB.of (fun _=>0) (fun _=>[])
  cases hb:(KO E YV&&Nat.beq i 1)
  ·rw[hb] at hj;cases hj
  ·rw[hb] at hj
   cases hj
   rw[Bool.and_eq_true] at hb
   obtain rfl:=Nat.eq_of_beq_eq_true hb.2
   have e:E=YV:=zBI hb.1
   subst e
   refine⟨rfl,h.r2,h.n1,h.s1,?_⟩
   rw[List.length_append]
   have:=h.l1
   show 1+(R 1).length≤_
   omega
section
variable [zB]
/-- Numbers for pivots,or none. -/
def pvW (p:Nat):HV:=bif Nat.beq p 5 then .nam 1 else uo
def Zg (p:Nat):List HV:=[iW 24,iW 5,pvW p,.nam 3,.nam 4,uo,fW]
def ZU (v:HV):List HV:=
 match v with
 | .tup [h,r]=>[h,r,iW 20]
 | _=>[]
def zEy (p c:Nat):EC:=Jn (JG ((98,2,yu)::zLS (qB p c)) Jy)
theorem gi {p c:Nat} (hs:yg Tryz.prog 98 yu) (h:qH (qB p c)):qe Tryz.prog (zEy p c):=zEQ (zBC zE4 _ fun x hx=>by
 rcases List.mem_cons.1 hx with rfl | hx
 ·exact hs
 ·obtain⟨y,hy,rfl⟩:=List.mem_map.1 hx
  exact zC9 _ (h y hy))
end
end Go.Proofs.YtbmibhjjogobhaaGreat
namespace Go.Proofs.YtbmibhjjogobhaaGreat
open Go Go.Eng
set_option maxRecDepth 100000
def zCS:HV:=.tup [pW 26 0 0 0,pW 52 0 0 0]
def Gj:qX:=[
(0,.arr 0 1 ([tW]::[tW]::[tW]::rpW 21 [fW] []) false),
(1,.arr 0 256 (((bV 1)::(bV 0)::(bV 0)::(bV 0)::(bV 147)::(bV 244)::(bV 165)::(bV 195)::rpW 248 (bV 0) [])::((bV 1)::(bV 0)::(bV 0)::(bV 0)::(bV 147)::(bV 244)::(bV 165)::(bV 195)::rpW 248 (bV 0) [])::((bV 1)::(bV 0)::(bV 0)::(bV 0)::(bV 147)::(bV 244)::(bV 165)::(bV 195)::rpW 248 (bV 0) [])::rpW 21 (rpW 256 (bV 0) []) []) false),
(2,.arr 0 2 [[.sl 1 0 0 24 (some 24),.sl 0 0 0 24 (some 24)]] false),
(3,.map 0 3 .i64 [(0,1,iW 0),(1,2,iW 1),(2,0,iW 2)]),
(4,.map 0 0 .i64 []),
(5,.arr 0 5 [[.sl 7 17 0 18 none,.ref 3 0,.ref 4 0,.imm true [],iW 0]] false),
(7,.arr 17 11 ([iW 2,iW 1,.int .i64 (.negSucc 0),iW 0,tW,tW,tW,.nam 20,.imm false [],.imm false [],.imm false []]::[iW 2,iW 2,.int .i64 (.negSucc 0),iW 0,tW,tW,tW,.nam 21,.imm false [],.imm false [],.imm false []]::[iW 2,iW 0,.int .i64 (.negSucc 0),iW 0,tW,tW,fW,.imm false [],.sl 210 0 0 2 none,.nam 5,.nam 8]::rpW 15 [iW 0,.int .i64 (.negSucc 0),.int .i64 (.negSucc 0),iW 0,fW,fW,fW,.imm true [],.imm true [],.imm true [],.imm true []] []) true),
(25,.map 0 1 .i64 []),
(26,.arr 0 4 [[pW 5 0 0 0,pW 2 0 0 0,.sl 28 17 0 18 none,.ref 25 0]] false),
(27,.arr 0 4 [[iW 0,.imm true [],.int .i64 (.negSucc 0),.imm true []]] false),
(28,.arr 17 1 [[pW 27 0 0 0],[pW 29 0 0 0],[pW 30 0 0 0],[pW 31 0 0 0],[pW 32 0 0 0],[pW 33 0 0 0],[pW 34 0 0 0],[pW 35 0 0 0],[pW 36 0 0 0],[pW 37 0 0 0],[pW 38 0 0 0],[pW 39 0 0 0],[pW 40 0 0 0],[pW 41 0 0 0],[pW 42 0 0 0],[pW 43 0 0 0],[pW 44 0 0 0],[pW 45 0 0 0]] true),
(29,.arr 0 4 [[iW 0,.imm true [],.int .i64 (.negSucc 0),.imm true []]] false),
(30,.arr 0 4 [[iW 0,.imm true [],.int .i64 (.negSucc 0),.imm true []]] false),
(31,.arr 0 4 [[iW 0,.imm true [],.int .i64 (.negSucc 0),.imm true []]] false),
(32,.arr 0 4 [[iW 0,.imm true [],.int .i64 (.negSucc 0),.imm true []]] false),
(33,.arr 0 4 [[iW 0,.imm true [],.int .i64 (.negSucc 0),.imm true []]] false),
(34,.arr 0 4 [[iW 0,.imm true [],.int .i64 (.negSucc 0),.imm true []]] false),
(35,.arr 0 4 [[iW 0,.imm true [],.int .i64 (.negSucc 0),.imm true []]] false),
(36,.arr 0 4 [[iW 0,.imm true [],.int .i64 (.negSucc 0),.imm true []]] false),
(37,.arr 0 4 [[iW 0,.imm true [],.int .i64 (.negSucc 0),.imm true []]] false),
(38,.arr 0 4 [[iW 0,.imm true [],.int .i64 (.negSucc 0),.imm true []]] false),
(39,.arr 0 4 [[iW 0,.imm true [],.int .i64 (.negSucc 0),.imm true []]] false),
(40,.arr 0 4 [[iW 0,.imm true [],.int .i64 (.negSucc 0),.imm true []]] false),
(41,.arr 0 4 [[iW 0,.imm true [],.int .i64 (.negSucc 0),.imm true []]] false),
(42,.arr 0 4 [[iW 0,.imm true [],.int .i64 (.negSucc 0),.imm true []]] false),
(43,.arr 0 4 [[iW 0,.imm true [],.int .i64 (.negSucc 0),.imm true []]] false),
(44,.arr 0 4 [[iW 0,.imm true [],.int .i64 (.negSucc 0),.imm true []]] false),
(45,.arr 0 4 [[iW 0,.imm true [],.int .i64 (.negSucc 0),.imm true []]] false),
(47,.arr 0 1 ([.sl 54 0 0 256 none]::[.sl 113 0 0 256 none]::[.sl 155 0 0 256 none]::rpW 21 [.imm true []] []) false),
(48,.arr 0 1 ([tW]::[tW]::[tW]::rpW 21 [fW] []) false),
(49,.arr 0 2 [[.sl 48 0 0 24 (some 24),.sl 47 0 0 24 (some 24)]] false),
(50,.arr 0 11 ([iW 2,iW 1,iW 0,tW,tW,tW,.nam 20,.imm true [],.imm true [],.imm true [],iW 0]::[iW 2,iW 2,iW 0,tW,tW,tW,.nam 21,.imm true [],.imm true [],.imm true [],iW 0]::[iW 2,iW 0,iW 0,tW,tW,fW,.imm true [],.sl 124 1 0 2 none,.nam 5,.nam 8,iW 7]::rpW 15 [iW 0,.int .i64 (.negSucc 0),iW 0,fW,fW,fW,.imm true [],.imm true [],.imm true [],.imm true [],iW 0] []) false),
(51,.arr 0 4 [[.sl 50 0 0 18 (some 18),.imm true [],.imm true [],iW 0]] false),
(52,.arr 0 3 [[pW 49 0 0 0,pW 51 0 0 0,.sl 56 17 0 18 none]] false),
(54,.arr 0 1 ([bV 1]::[bV 0]::[bV 0]::[bV 0]::[bV 147]::[bV 244]::[bV 165]::[bV 195]::rpW 248 [bV 0] []) true),
(55,.arr 0 4 [[.imm true [],.int .i64 (.negSucc 0),.imm true [],iW 0]] false),
(56,.arr 17 1 [[pW 55 0 0 0],[pW 57 0 0 0],[pW 58 0 0 0],[pW 59 0 0 0],[pW 60 0 0 0],[pW 61 0 0 0],[pW 62 0 0 0],[pW 63 0 0 0],[pW 64 0 0 0],[pW 65 0 0 0],[pW 66 0 0 0],[pW 67 0 0 0],[pW 68 0 0 0],[pW 69 0 0 0],[pW 70 0 0 0],[pW 71 0 0 0],[pW 72 0 0 0],[pW 73 0 0 0]] true),
(57,.arr 0 4 [[.imm true [],.int .i64 (.negSucc 0),.imm true [],iW 0]] false),
(58,.arr 0 4 [[.imm true [],.int .i64 (.negSucc 0),.imm true [],iW 0]] false),
(59,.arr 0 4 [[.imm true [],.int .i64 (.negSucc 0),.imm true [],iW 0]] false),
(60,.arr 0 4 [[.imm true [],.int .i64 (.negSucc 0),.imm true [],iW 0]] false),
(61,.arr 0 4 [[.imm true [],.int .i64 (.negSucc 0),.imm true [],iW 0]] false),
(62,.arr 0 4 [[.imm true [],.int .i64 (.negSucc 0),.imm true [],iW 0]] false),
(63,.arr 0 4 [[.imm true [],.int .i64 (.negSucc 0),.imm true [],iW 0]] false),
(64,.arr 0 4 [[.imm true [],.int .i64 (.negSucc 0),.imm true [],iW 0]] false),
(65,.arr 0 4 [[.imm true [],.int .i64 (.negSucc 0),.imm true [],iW 0]] false),
(66,.arr 0 4 [[.imm true [],.int .i64 (.negSucc 0),.imm true [],iW 0]] false),
(67,.arr 0 4 [[.imm true [],.int .i64 (.negSucc 0),.imm true [],iW 0]] false),
(68,.arr 0 4 [[.imm true [],.int .i64 (.negSucc 0),.imm true [],iW 0]] false),
(69,.arr 0 4 [[.imm true [],.int .i64 (.negSucc 0),.imm true [],iW 0]] false),
(70,.arr 0 4 [[.imm true [],.int .i64 (.negSucc 0),.imm true [],iW 0]] false),
(71,.arr 0 4 [[.imm true [],.int .i64 (.negSucc 0),.imm true [],iW 0]] false),
(72,.arr 0 4 [[.imm true [],.int .i64 (.negSucc 0),.imm true [],iW 0]] false),
(73,.arr 0 4 [[.imm true [],.int .i64 (.negSucc 0),.imm true [],iW 0]] false),
(105,.iter 0 (.ref 4 0) 0 [] 0),
(113,.arr 0 1 ([bV 1]::[bV 0]::[bV 0]::[bV 0]::[bV 147]::[bV 244]::[bV 165]::[bV 195]::rpW 248 [bV 0] []) true),
(124,.arr 1 1 [[iW 1],[iW 2]] true),
(147,.iter 0 (.ref 4 0) 0 [] 0),
(155,.arr 0 1 ([bV 1]::[bV 0]::[bV 0]::[bV 0]::[bV 147]::[bV 244]::[bV 165]::[bV 195]::rpW 248 [bV 0] []) true),
(189,.iter 0 (.ref 4 0) 0 [] 0),
(210,.arr 0 1 [[iW 1],[iW 2]] true)]
def zFn:Nat:=214
def zAt:HV:=.tup [pW 26 0 0 0,pW 52 0 0 0]
def GN:qX:=[
(0,.arr 0 1 ([tW]::[tW]::[tW]::[tW]::rpW 20 [fW] []) false),
(1,.arr 0 256 (((bV 1)::(bV 0)::(bV 0)::(bV 0)::(bV 147)::(bV 244)::(bV 165)::(bV 195)::rpW 248 (bV 0) [])::((bV 1)::(bV 0)::(bV 0)::(bV 0)::(bV 147)::(bV 244)::(bV 165)::(bV 195)::rpW 248 (bV 0) [])::((bV 1)::(bV 0)::(bV 0)::(bV 0)::(bV 147)::(bV 244)::(bV 165)::(bV 195)::rpW 248 (bV 0) [])::((bV 1)::(bV 0)::(bV 0)::(bV 0)::(bV 147)::(bV 244)::(bV 165)::(bV 195)::rpW 248 (bV 0) [])::rpW 20 (rpW 256 (bV 0) []) []) false),
(2,.arr 0 2 [[.sl 1 0 0 24 (some 24),.sl 0 0 0 24 (some 24)]] false),
(3,.map 0 4 .i64 [(0,1,iW 0),(1,2,iW 1),(2,3,iW 2),(3,0,iW 3)]),
(4,.map 0 0 .i64 []),
(5,.arr 0 5 [[.sl 7 17 0 18 none,.ref 3 0,.ref 4 0,.imm true [],iW 0]] false),
(7,.arr 17 11 ([iW 2,iW 1,.int .i64 (.negSucc 0),iW 0,tW,tW,tW,.nam 20,.imm false [],.imm false [],.imm false []]::[iW 2,iW 2,.int .i64 (.negSucc 0),iW 0,tW,tW,tW,.nam 21,.imm false [],.imm false [],.imm false []]::[iW 2,iW 3,.int .i64 (.negSucc 0),iW 0,tW,tW,tW,.nam 22,.imm false [],.imm false [],.imm false []]::[iW 2,iW 0,.int .i64 (.negSucc 0),iW 0,tW,tW,fW,.imm false [],.sl 251 0 0 3 none,.nam 5,.nam 8]::rpW 14 [iW 0,.int .i64 (.negSucc 0),.int .i64 (.negSucc 0),iW 0,fW,fW,fW,.imm true [],.imm true [],.imm true [],.imm true []] []) true),
(25,.map 0 1 .i64 []),
(26,.arr 0 4 [[pW 5 0 0 0,pW 2 0 0 0,.sl 28 17 0 18 none,.ref 25 0]] false),
(27,.arr 0 4 [[iW 0,.imm true [],.int .i64 (.negSucc 0),.imm true []]] false),
(28,.arr 17 1 [[pW 27 0 0 0],[pW 29 0 0 0],[pW 30 0 0 0],[pW 31 0 0 0],[pW 32 0 0 0],[pW 33 0 0 0],[pW 34 0 0 0],[pW 35 0 0 0],[pW 36 0 0 0],[pW 37 0 0 0],[pW 38 0 0 0],[pW 39 0 0 0],[pW 40 0 0 0],[pW 41 0 0 0],[pW 42 0 0 0],[pW 43 0 0 0],[pW 44 0 0 0],[pW 45 0 0 0]] true),
(29,.arr 0 4 [[iW 0,.imm true [],.int .i64 (.negSucc 0),.imm true []]] false),
(30,.arr 0 4 [[iW 0,.imm true [],.int .i64 (.negSucc 0),.imm true []]] false),
(31,.arr 0 4 [[iW 0,.imm true [],.int .i64 (.negSucc 0),.imm true []]] false),
(32,.arr 0 4 [[iW 0,.imm true [],.int .i64 (.negSucc 0),.imm true []]] false),
(33,.arr 0 4 [[iW 0,.imm true [],.int .i64 (.negSucc 0),.imm true []]] false),
(34,.arr 0 4 [[iW 0,.imm true [],.int .i64 (.negSucc 0),.imm true []]] false),
(35,.arr 0 4 [[iW 0,.imm true [],.int .i64 (.negSucc 0),.imm true []]] false),
(36,.arr 0 4 [[iW 0,.imm true [],.int .i64 (.negSucc 0),.imm true []]] false),
(37,.arr 0 4 [[iW 0,.imm true [],.int .i64 (.negSucc 0),.imm true []]] false),
(38,.arr 0 4 [[iW 0,.imm true [],.int .i64 (.negSucc 0),.imm true []]] false),
(39,.arr 0 4 [[iW 0,.imm true [],.int .i64 (.negSucc 0),.imm true []]] false),
(40,.arr 0 4 [[iW 0,.imm true [],.int .i64 (.negSucc 0),.imm true []]] false),
(41,.arr 0 4 [[iW 0,.imm true [],.int .i64 (.negSucc 0),.imm true []]] false),
(42,.arr 0 4 [[iW 0,.imm true [],.int .i64 (.negSucc 0),.imm true []]] false),
(43,.arr 0 4 [[iW 0,.imm true [],.int .i64 (.negSucc 0),.imm true []]] false),
(44,.arr 0 4 [[iW 0,.imm true [],.int .i64 (.negSucc 0),.imm true []]] false),
(45,.arr 0 4 [[iW 0,.imm true [],.int .i64 (.negSucc 0),.imm true []]] false),
(47,.arr 0 1 ([.sl 54 0 0 256 none]::[.sl 113 0 0 256 none]::[.sl 155 0 0 256 none]::[.sl 196 0 0 256 none]::rpW 20 [.imm true []] []) false),
(48,.arr 0 1 ([tW]::[tW]::[tW]::[tW]::rpW 20 [fW] []) false),
(49,.arr 0 2 [[.sl 48 0 0 24 (some 24),.sl 47 0 0 24 (some 24)]] false),
(50,.arr 0 11 ([iW 2,iW 1,iW 0,tW,tW,tW,.nam 20,.imm true [],.imm true [],.imm true [],iW 0]::[iW 2,iW 2,iW 0,tW,tW,tW,.nam 21,.imm true [],.imm true [],.imm true [],iW 0]::[iW 2,iW 3,iW 0,tW,tW,tW,.nam 22,.imm true [],.imm true [],.imm true [],iW 0]::[iW 2,iW 0,iW 0,tW,tW,fW,.imm true [],.sl 124 2 0 3 none,.nam 5,.nam 8,iW 7]::rpW 14 [iW 0,.int .i64 (.negSucc 0),iW 0,fW,fW,fW,.imm true [],.imm true [],.imm true [],.imm true [],iW 0] []) false),
(51,.arr 0 4 [[.sl 50 0 0 18 (some 18),.imm true [],.imm true [],iW 0]] false),
(52,.arr 0 3 [[pW 49 0 0 0,pW 51 0 0 0,.sl 56 17 0 18 none]] false),
(54,.arr 0 1 ([bV 1]::[bV 0]::[bV 0]::[bV 0]::[bV 147]::[bV 244]::[bV 165]::[bV 195]::rpW 248 [bV 0] []) true),
(55,.arr 0 4 [[.imm true [],.int .i64 (.negSucc 0),.imm true [],iW 0]] false),
(56,.arr 17 1 [[pW 55 0 0 0],[pW 57 0 0 0],[pW 58 0 0 0],[pW 59 0 0 0],[pW 60 0 0 0],[pW 61 0 0 0],[pW 62 0 0 0],[pW 63 0 0 0],[pW 64 0 0 0],[pW 65 0 0 0],[pW 66 0 0 0],[pW 67 0 0 0],[pW 68 0 0 0],[pW 69 0 0 0],[pW 70 0 0 0],[pW 71 0 0 0],[pW 72 0 0 0],[pW 73 0 0 0]] true),
(57,.arr 0 4 [[.imm true [],.int .i64 (.negSucc 0),.imm true [],iW 0]] false),
(58,.arr 0 4 [[.imm true [],.int .i64 (.negSucc 0),.imm true [],iW 0]] false),
(59,.arr 0 4 [[.imm true [],.int .i64 (.negSucc 0),.imm true [],iW 0]] false),
(60,.arr 0 4 [[.imm true [],.int .i64 (.negSucc 0),.imm true [],iW 0]] false),
(61,.arr 0 4 [[.imm true [],.int .i64 (.negSucc 0),.imm true [],iW 0]] false),
(62,.arr 0 4 [[.imm true [],.int .i64 (.negSucc 0),.imm true [],iW 0]] false),
(63,.arr 0 4 [[.imm true [],.int .i64 (.negSucc 0),.imm true [],iW 0]] false),
(64,.arr 0 4 [[.imm true [],.int .i64 (.negSucc 0),.imm true [],iW 0]] false),
(65,.arr 0 4 [[.imm true [],.int .i64 (.negSucc 0),.imm true [],iW 0]] false),
(66,.arr 0 4 [[.imm true [],.int .i64 (.negSucc 0),.imm true [],iW 0]] false),
(67,.arr 0 4 [[.imm true [],.int .i64 (.negSucc 0),.imm true [],iW 0]] false),
(68,.arr 0 4 [[.imm true [],.int .i64 (.negSucc 0),.imm true [],iW 0]] false),
(69,.arr 0 4 [[.imm true [],.int .i64 (.negSucc 0),.imm true [],iW 0]] false),
(70,.arr 0 4 [[.imm true [],.int .i64 (.negSucc 0),.imm true [],iW 0]] false),
(71,.arr 0 4 [[.imm true [],.int .i64 (.negSucc 0),.imm true [],iW 0]] false),
(72,.arr 0 4 [[.imm true [],.int .i64 (.negSucc 0),.imm true [],iW 0]] false),
(73,.arr 0 4 [[.imm true [],.int .i64 (.negSucc 0),.imm true [],iW 0]] false),
(105,.iter 0 (.ref 4 0) 0 [] 0),
(113,.arr 0 1 ([bV 1]::[bV 0]::[bV 0]::[bV 0]::[bV 147]::[bV 244]::[bV 165]::[bV 195]::rpW 248 [bV 0] []) true),
(124,.arr 2 1 [[iW 1],[iW 2],[iW 3]] true),
(147,.iter 0 (.ref 4 0) 0 [] 0),
(155,.arr 0 1 ([bV 1]::[bV 0]::[bV 0]::[bV 0]::[bV 147]::[bV 244]::[bV 165]::[bV 195]::rpW 248 [bV 0] []) true),
(188,.iter 0 (.ref 4 0) 0 [] 0),
(196,.arr 0 1 ([bV 1]::[bV 0]::[bV 0]::[bV 0]::[bV 147]::[bV 244]::[bV 165]::[bV 195]::rpW 248 [bV 0] []) true),
(230,.iter 0 (.ref 4 0) 0 [] 0),
(251,.arr 0 1 [[iW 1],[iW 2],[iW 3]] true)]
def zFK:Nat:=255
def zBd:HV:=.tup [pW 26 0 0 0,pW 52 0 0 0]
def JW:qX:=[
(0,.arr 0 1 (rpW 5 [tW] (rpW 19 [fW] [])) false),
(1,.arr 0 256 (rpW 5 ((bV 1)::(bV 0)::(bV 0)::(bV 0)::(bV 147)::(bV 244)::(bV 165)::(bV 195)::rpW 248 (bV 0) []) (rpW 19 (rpW 256 (bV 0) []) [])) false),
(2,.arr 0 2 [[.sl 1 0 0 24 (some 24),.sl 0 0 0 24 (some 24)]] false),
(3,.map 0 5 .i64 [(0,1,iW 0),(1,2,iW 1),(2,3,iW 2),(3,4,iW 3),(4,0,iW 4)]),
(4,.map 0 0 .i64 []),
(5,.arr 0 5 [[.sl 7 17 0 18 none,.ref 3 0,.ref 4 0,.imm true [],iW 0]] false),
(7,.arr 17 11 ([iW 2,iW 1,.int .i64 (.negSucc 0),iW 0,tW,tW,tW,.nam 20,.imm false [],.imm false [],.imm false []]::[iW 2,iW 2,.int .i64 (.negSucc 0),iW 0,tW,tW,tW,.nam 21,.imm false [],.imm false [],.imm false []]::[iW 2,iW 3,.int .i64 (.negSucc 0),iW 0,tW,tW,tW,.nam 22,.imm false [],.imm false [],.imm false []]::[iW 2,iW 4,.int .i64 (.negSucc 0),iW 0,tW,tW,tW,.nam 23,.imm false [],.imm false [],.imm false []]::[iW 2,iW 0,.int .i64 (.negSucc 0),iW 0,tW,tW,fW,.imm false [],.sl 292 0 0 4 none,.nam 5,.nam 8]::rpW 13 [iW 0,.int .i64 (.negSucc 0),.int .i64 (.negSucc 0),iW 0,fW,fW,fW,.imm true [],.imm true [],.imm true [],.imm true []] []) true),
(25,.map 0 1 .i64 []),
(26,.arr 0 4 [[pW 5 0 0 0,pW 2 0 0 0,.sl 28 17 0 18 none,.ref 25 0]] false),
(27,.arr 0 4 [[iW 0,.imm true [],.int .i64 (.negSucc 0),.imm true []]] false),
(28,.arr 17 1 [[pW 27 0 0 0],[pW 29 0 0 0],[pW 30 0 0 0],[pW 31 0 0 0],[pW 32 0 0 0],[pW 33 0 0 0],[pW 34 0 0 0],[pW 35 0 0 0],[pW 36 0 0 0],[pW 37 0 0 0],[pW 38 0 0 0],[pW 39 0 0 0],[pW 40 0 0 0],[pW 41 0 0 0],[pW 42 0 0 0],[pW 43 0 0 0],[pW 44 0 0 0],[pW 45 0 0 0]] true),
(29,.arr 0 4 [[iW 0,.imm true [],.int .i64 (.negSucc 0),.imm true []]] false),
(30,.arr 0 4 [[iW 0,.imm true [],.int .i64 (.negSucc 0),.imm true []]] false),
(31,.arr 0 4 [[iW 0,.imm true [],.int .i64 (.negSucc 0),.imm true []]] false),
(32,.arr 0 4 [[iW 0,.imm true [],.int .i64 (.negSucc 0),.imm true []]] false),
(33,.arr 0 4 [[iW 0,.imm true [],.int .i64 (.negSucc 0),.imm true []]] false),
(34,.arr 0 4 [[iW 0,.imm true [],.int .i64 (.negSucc 0),.imm true []]] false),
(35,.arr 0 4 [[iW 0,.imm true [],.int .i64 (.negSucc 0),.imm true []]] false),
(36,.arr 0 4 [[iW 0,.imm true [],.int .i64 (.negSucc 0),.imm true []]] false),
(37,.arr 0 4 [[iW 0,.imm true [],.int .i64 (.negSucc 0),.imm true []]] false),
(38,.arr 0 4 [[iW 0,.imm true [],.int .i64 (.negSucc 0),.imm true []]] false),
(39,.arr 0 4 [[iW 0,.imm true [],.int .i64 (.negSucc 0),.imm true []]] false),
(40,.arr 0 4 [[iW 0,.imm true [],.int .i64 (.negSucc 0),.imm true []]] false),
(41,.arr 0 4 [[iW 0,.imm true [],.int .i64 (.negSucc 0),.imm true []]] false),
(42,.arr 0 4 [[iW 0,.imm true [],.int .i64 (.negSucc 0),.imm true []]] false),
(43,.arr 0 4 [[iW 0,.imm true [],.int .i64 (.negSucc 0),.imm true []]] false),
(44,.arr 0 4 [[iW 0,.imm true [],.int .i64 (.negSucc 0),.imm true []]] false),
(45,.arr 0 4 [[iW 0,.imm true [],.int .i64 (.negSucc 0),.imm true []]] false),
(47,.arr 0 1 ([.sl 54 0 0 256 none]::[.sl 113 0 0 256 none]::[.sl 155 0 0 256 none]::[.sl 196 0 0 256 none]::[.sl 237 0 0 256 none]::rpW 19 [.imm true []] []) false),
(48,.arr 0 1 (rpW 5 [tW] (rpW 19 [fW] [])) false),
(49,.arr 0 2 [[.sl 48 0 0 24 (some 24),.sl 47 0 0 24 (some 24)]] false),
(50,.arr 0 11 ([iW 2,iW 1,iW 0,tW,tW,tW,.nam 20,.imm true [],.imm true [],.imm true [],iW 0]::[iW 2,iW 2,iW 0,tW,tW,tW,.nam 21,.imm true [],.imm true [],.imm true [],iW 0]::[iW 2,iW 3,iW 0,tW,tW,tW,.nam 22,.imm true [],.imm true [],.imm true [],iW 0]::[iW 2,iW 4,iW 0,tW,tW,tW,.nam 23,.imm true [],.imm true [],.imm true [],iW 0]::[iW 2,iW 0,iW 0,tW,tW,fW,.imm true [],.sl 124 3 0 4 none,.nam 5,.nam 8,iW 7]::rpW 13 [iW 0,.int .i64 (.negSucc 0),iW 0,fW,fW,fW,.imm true [],.imm true [],.imm true [],.imm true [],iW 0] []) false),
(51,.arr 0 4 [[.sl 50 0 0 18 (some 18),.imm true [],.imm true [],iW 0]] false),
(52,.arr 0 3 [[pW 49 0 0 0,pW 51 0 0 0,.sl 56 17 0 18 none]] false),
(54,.arr 0 1 ([bV 1]::[bV 0]::[bV 0]::[bV 0]::[bV 147]::[bV 244]::[bV 165]::[bV 195]::rpW 248 [bV 0] []) true),
(55,.arr 0 4 [[.imm true [],.int .i64 (.negSucc 0),.imm true [],iW 0]] false),
(56,.arr 17 1 [[pW 55 0 0 0],[pW 57 0 0 0],[pW 58 0 0 0],[pW 59 0 0 0],[pW 60 0 0 0],[pW 61 0 0 0],[pW 62 0 0 0],[pW 63 0 0 0],[pW 64 0 0 0],[pW 65 0 0 0],[pW 66 0 0 0],[pW 67 0 0 0],[pW 68 0 0 0],[pW 69 0 0 0],[pW 70 0 0 0],[pW 71 0 0 0],[pW 72 0 0 0],[pW 73 0 0 0]] true),
(57,.arr 0 4 [[.imm true [],.int .i64 (.negSucc 0),.imm true [],iW 0]] false),
(58,.arr 0 4 [[.imm true [],.int .i64 (.negSucc 0),.imm true [],iW 0]] false),
(59,.arr 0 4 [[.imm true [],.int .i64 (.negSucc 0),.imm true [],iW 0]] false),
(60,.arr 0 4 [[.imm true [],.int .i64 (.negSucc 0),.imm true [],iW 0]] false),
(61,.arr 0 4 [[.imm true [],.int .i64 (.negSucc 0),.imm true [],iW 0]] false),
(62,.arr 0 4 [[.imm true [],.int .i64 (.negSucc 0),.imm true [],iW 0]] false),
(63,.arr 0 4 [[.imm true [],.int .i64 (.negSucc 0),.imm true [],iW 0]] false),
(64,.arr 0 4 [[.imm true [],.int .i64 (.negSucc 0),.imm true [],iW 0]] false),
(65,.arr 0 4 [[.imm true [],.int .i64 (.negSucc 0),.imm true [],iW 0]] false),
(66,.arr 0 4 [[.imm true [],.int .i64 (.negSucc 0),.imm true [],iW 0]] false),
(67,.arr 0 4 [[.imm true [],.int .i64 (.negSucc 0),.imm true [],iW 0]] false),
(68,.arr 0 4 [[.imm true [],.int .i64 (.negSucc 0),.imm true [],iW 0]] false),
(69,.arr 0 4 [[.imm true [],.int .i64 (.negSucc 0),.imm true [],iW 0]] false),
(70,.arr 0 4 [[.imm true [],.int .i64 (.negSucc 0),.imm true [],iW 0]] false),
(71,.arr 0 4 [[.imm true [],.int .i64 (.negSucc 0),.imm true [],iW 0]] false),
(72,.arr 0 4 [[.imm true [],.int .i64 (.negSucc 0),.imm true [],iW 0]] false),
(73,.arr 0 4 [[.imm true [],.int .i64 (.negSucc 0),.imm true [],iW 0]] false),
(105,.iter 0 (.ref 4 0) 0 [] 0),
(113,.arr 0 1 ([bV 1]::[bV 0]::[bV 0]::[bV 0]::[bV 147]::[bV 244]::[bV 165]::[bV 195]::rpW 248 [bV 0] []) true),
(124,.arr 3 1 [[iW 1],[iW 2],[iW 3],[iW 4]] true),
(147,.iter 0 (.ref 4 0) 0 [] 0),
(155,.arr 0 1 ([bV 1]::[bV 0]::[bV 0]::[bV 0]::[bV 147]::[bV 244]::[bV 165]::[bV 195]::rpW 248 [bV 0] []) true),
(188,.iter 0 (.ref 4 0) 0 [] 0),
(196,.arr 0 1 ([bV 1]::[bV 0]::[bV 0]::[bV 0]::[bV 147]::[bV 244]::[bV 165]::[bV 195]::rpW 248 [bV 0] []) true),
(229,.iter 0 (.ref 4 0) 0 [] 0),
(237,.arr 0 1 ([bV 1]::[bV 0]::[bV 0]::[bV 0]::[bV 147]::[bV 244]::[bV 165]::[bV 195]::rpW 248 [bV 0] []) true),
(271,.iter 0 (.ref 4 0) 0 [] 0),
(292,.arr 0 1 [[iW 1],[iW 2],[iW 3],[iW 4]] true)]
def zFf:Nat:=296
def zE3:HV:=.tup [pW 26 0 0 0,pW 52 0 0 0]
def Qu:qX:=[
(0,.arr 0 1 ([tW]::[tW]::[tW]::rpW 21 [fW] []) false),
(1,.arr 0 256 (((bV 1)::(bV 0)::(bV 0)::(bV 0)::(bV 147)::(bV 244)::(bV 165)::(bV 195)::rpW 248 (bV 0) [])::((bV 1)::(bV 0)::(bV 0)::(bV 0)::(bV 147)::(bV 244)::(bV 165)::(bV 195)::rpW 248 (bV 0) [])::((bV 1)::(bV 0)::(bV 0)::(bV 0)::(bV 147)::(bV 244)::(bV 165)::(bV 195)::rpW 248 (bV 0) [])::rpW 21 (rpW 256 (bV 0) []) []) false),
(2,.arr 0 2 [[.sl 1 0 0 24 (some 24),.sl 0 0 0 24 (some 24)]] false),
(3,.map 0 3 .i64 [(0,1,iW 0),(1,2,iW 1),(2,0,iW 2)]),
(4,.map 0 0 .i64 []),
(5,.arr 0 5 [[.sl 7 17 0 18 none,.ref 3 0,.ref 4 0,.imm true [],iW 0]] false),
(7,.arr 17 11 ([iW 2,iW 1,.int .i64 (.negSucc 0),iW 0,tW,tW,tW,.nam 20,.imm false [],.imm false [],.imm false []]::[iW 2,iW 2,.int .i64 (.negSucc 0),iW 0,tW,tW,tW,.nam 21,.imm false [],.imm false [],.imm false []]::[iW 2,iW 0,.int .i64 (.negSucc 0),iW 0,tW,tW,fW,.imm false [],.sl 209 0 0 2 none,.nam 6,.nam 8]::rpW 15 [iW 0,.int .i64 (.negSucc 0),.int .i64 (.negSucc 0),iW 0,fW,fW,fW,.imm true [],.imm true [],.imm true [],.imm true []] []) true),
(25,.map 0 1 .i64 []),
(26,.arr 0 4 [[pW 5 0 0 0,pW 2 0 0 0,.sl 28 17 0 18 none,.ref 25 0]] false),
(27,.arr 0 4 [[iW 0,.imm true [],.int .i64 (.negSucc 0),.imm true []]] false),
(28,.arr 17 1 [[pW 27 0 0 0],[pW 29 0 0 0],[pW 30 0 0 0],[pW 31 0 0 0],[pW 32 0 0 0],[pW 33 0 0 0],[pW 34 0 0 0],[pW 35 0 0 0],[pW 36 0 0 0],[pW 37 0 0 0],[pW 38 0 0 0],[pW 39 0 0 0],[pW 40 0 0 0],[pW 41 0 0 0],[pW 42 0 0 0],[pW 43 0 0 0],[pW 44 0 0 0],[pW 45 0 0 0]] true),
(29,.arr 0 4 [[iW 0,.imm true [],.int .i64 (.negSucc 0),.imm true []]] false),
(30,.arr 0 4 [[iW 0,.imm true [],.int .i64 (.negSucc 0),.imm true []]] false),
(31,.arr 0 4 [[iW 0,.imm true [],.int .i64 (.negSucc 0),.imm true []]] false),
(32,.arr 0 4 [[iW 0,.imm true [],.int .i64 (.negSucc 0),.imm true []]] false),
(33,.arr 0 4 [[iW 0,.imm true [],.int .i64 (.negSucc 0),.imm true []]] false),
(34,.arr 0 4 [[iW 0,.imm true [],.int .i64 (.negSucc 0),.imm true []]] false),
(35,.arr 0 4 [[iW 0,.imm true [],.int .i64 (.negSucc 0),.imm true []]] false),
(36,.arr 0 4 [[iW 0,.imm true [],.int .i64 (.negSucc 0),.imm true []]] false),
(37,.arr 0 4 [[iW 0,.imm true [],.int .i64 (.negSucc 0),.imm true []]] false),
(38,.arr 0 4 [[iW 0,.imm true [],.int .i64 (.negSucc 0),.imm true []]] false),
(39,.arr 0 4 [[iW 0,.imm true [],.int .i64 (.negSucc 0),.imm true []]] false),
(40,.arr 0 4 [[iW 0,.imm true [],.int .i64 (.negSucc 0),.imm true []]] false),
(41,.arr 0 4 [[iW 0,.imm true [],.int .i64 (.negSucc 0),.imm true []]] false),
(42,.arr 0 4 [[iW 0,.imm true [],.int .i64 (.negSucc 0),.imm true []]] false),
(43,.arr 0 4 [[iW 0,.imm true [],.int .i64 (.negSucc 0),.imm true []]] false),
(44,.arr 0 4 [[iW 0,.imm true [],.int .i64 (.negSucc 0),.imm true []]] false),
(45,.arr 0 4 [[iW 0,.imm true [],.int .i64 (.negSucc 0),.imm true []]] false),
(47,.arr 0 1 ([.sl 54 0 0 256 none]::[.sl 112 0 0 256 none]::[.sl 154 0 0 256 none]::rpW 21 [.imm true []] []) false),
(48,.arr 0 1 ([tW]::[tW]::[tW]::rpW 21 [fW] []) false),
(49,.arr 0 2 [[.sl 48 0 0 24 (some 24),.sl 47 0 0 24 (some 24)]] false),
(50,.arr 0 11 ([iW 2,iW 1,iW 0,tW,tW,tW,.nam 20,.imm true [],.imm true [],.imm true [],iW 0]::[iW 2,iW 2,iW 0,tW,tW,tW,.nam 21,.imm true [],.imm true [],.imm true [],iW 0]::[iW 2,iW 0,iW 0,tW,tW,fW,.imm true [],.sl 123 1 0 2 none,.nam 6,.nam 8,iW 7]::rpW 15 [iW 0,.int .i64 (.negSucc 0),iW 0,fW,fW,fW,.imm true [],.imm true [],.imm true [],.imm true [],iW 0] []) false),
(51,.arr 0 4 [[.sl 50 0 0 18 (some 18),.imm true [],.imm true [],iW 0]] false),
(52,.arr 0 3 [[pW 49 0 0 0,pW 51 0 0 0,.sl 56 17 0 18 none]] false),
(54,.arr 0 1 ([bV 1]::[bV 0]::[bV 0]::[bV 0]::[bV 147]::[bV 244]::[bV 165]::[bV 195]::rpW 248 [bV 0] []) true),
(55,.arr 0 4 [[.imm true [],.int .i64 (.negSucc 0),.imm true [],iW 0]] false),
(56,.arr 17 1 [[pW 55 0 0 0],[pW 57 0 0 0],[pW 58 0 0 0],[pW 59 0 0 0],[pW 60 0 0 0],[pW 61 0 0 0],[pW 62 0 0 0],[pW 63 0 0 0],[pW 64 0 0 0],[pW 65 0 0 0],[pW 66 0 0 0],[pW 67 0 0 0],[pW 68 0 0 0],[pW 69 0 0 0],[pW 70 0 0 0],[pW 71 0 0 0],[pW 72 0 0 0],[pW 73 0 0 0]] true),
(57,.arr 0 4 [[.imm true [],.int .i64 (.negSucc 0),.imm true [],iW 0]] false),
(58,.arr 0 4 [[.imm true [],.int .i64 (.negSucc 0),.imm true [],iW 0]] false),
(59,.arr 0 4 [[.imm true [],.int .i64 (.negSucc 0),.imm true [],iW 0]] false),
(60,.arr 0 4 [[.imm true [],.int .i64 (.negSucc 0),.imm true [],iW 0]] false),
(61,.arr 0 4 [[.imm true [],.int .i64 (.negSucc 0),.imm true [],iW 0]] false),
(62,.arr 0 4 [[.imm true [],.int .i64 (.negSucc 0),.imm true [],iW 0]] false),
(63,.arr 0 4 [[.imm true [],.int .i64 (.negSucc 0),.imm true [],iW 0]] false),
(64,.arr 0 4 [[.imm true [],.int .i64 (.negSucc 0),.imm true [],iW 0]] false),
(65,.arr 0 4 [[.imm true [],.int .i64 (.negSucc 0),.imm true [],iW 0]] false),
(66,.arr 0 4 [[.imm true [],.int .i64 (.negSucc 0),.imm true [],iW 0]] false),
(67,.arr 0 4 [[.imm true [],.int .i64 (.negSucc 0),.imm true [],iW 0]] false),
(68,.arr 0 4 [[.imm true [],.int .i64 (.negSucc 0),.imm true [],iW 0]] false),
(69,.arr 0 4 [[.imm true [],.int .i64 (.negSucc 0),.imm true [],iW 0]] false),
(70,.arr 0 4 [[.imm true [],.int .i64 (.negSucc 0),.imm true [],iW 0]] false),
(71,.arr 0 4 [[.imm true [],.int .i64 (.negSucc 0),.imm true [],iW 0]] false),
(72,.arr 0 4 [[.imm true [],.int .i64 (.negSucc 0),.imm true [],iW 0]] false),
(73,.arr 0 4 [[.imm true [],.int .i64 (.negSucc 0),.imm true [],iW 0]] false),
(104,.iter 0 (.ref 4 0) 0 [] 0),
(112,.arr 0 1 ([bV 1]::[bV 0]::[bV 0]::[bV 0]::[bV 147]::[bV 244]::[bV 165]::[bV 195]::rpW 248 [bV 0] []) true),
(123,.arr 1 1 [[iW 1],[iW 2]] true),
(146,.iter 0 (.ref 4 0) 0 [] 0),
(154,.arr 0 1 ([bV 1]::[bV 0]::[bV 0]::[bV 0]::[bV 147]::[bV 244]::[bV 165]::[bV 195]::rpW 248 [bV 0] []) true),
(188,.iter 0 (.ref 4 0) 0 [] 0),
(209,.arr 0 1 [[iW 1],[iW 2]] true)]
def zCX:Nat:=213
end Go.Proofs.YtbmibhjjogobhaaGreat
namespace Go.Proofs.YtbmibhjjogobhaaGreat
open Go Go.Eng
set_option maxRecDepth 100000
def zNl:HV:=tW
def zGX:qX:=Gj++[
(54,.dead),
(113,.dead),
(124,.dead),
(155,.dead),
(210,.dead),
(1,.arr 0 256 ((tkL 3000 256 [])::(tkL 1000 256 [])::(tkL 1256 256 [])::rpW 21 (rpW 256 (bV 0) []) []) false),
(3,.map 0 3 .i64 []),
(5,.arr 0 5 [[.sl 7 17 0 18 none,.ref 3 0,.ref 4 0,.imm true [],iW 3]] false),
(7,.arr 17 11 (rpW 18 [iW 0,.int .i64 (.negSucc 0),.int .i64 (.negSucc 0),iW 0,fW,fW,fW,.imm true [],.imm true [],.imm true [],.imm true []] []) true),
(47,.arr 0 1 ([.sl 309 0 0 256 none]::[.sl 245 0 0 256 none]::[.sl 277 0 0 256 none]::rpW 21 [.imm true []] []) false),
(50,.arr 0 11 (rpW 18 [iW 0,.int .i64 (.negSucc 0),iW 0,fW,fW,fW,.imm true [],.imm true [],.imm true [],.imm true [],iW 0] []) false),
(51,.arr 0 4 [[.sl 50 0 0 18 (some 18),.imm true [],.imm true [],iW 3]] false),
(245,.arr 0 1 (tkR 1000 256) true),
(277,.arr 0 1 (tkR 1256 256) true),
(309,.arr 0 1 (tkR 3000 256) true)]
def zMj:Nat:=769
def zKV:HV:=tW
def zK8:qX:=GN++[
(54,.dead),
(113,.dead),
(124,.dead),
(155,.dead),
(196,.dead),
(251,.dead),
(1,.arr 0 256 ((tkL 3000 256 [])::(tkL 1000 256 [])::(tkL 1256 256 [])::(tkL 1512 256 [])::rpW 20 (rpW 256 (bV 0) []) []) false),
(3,.map 0 4 .i64 []),
(5,.arr 0 5 [[.sl 7 17 0 18 none,.ref 3 0,.ref 4 0,.imm true [],iW 4]] false),
(7,.arr 17 11 (rpW 18 [iW 0,.int .i64 (.negSucc 0),.int .i64 (.negSucc 0),iW 0,fW,fW,fW,.imm true [],.imm true [],.imm true [],.imm true []] []) true),
(47,.arr 0 1 ([.sl 382 0 0 256 none]::[.sl 286 0 0 256 none]::[.sl 318 0 0 256 none]::[.sl 350 0 0 256 none]::rpW 20 [.imm true []] []) false),
(50,.arr 0 11 (rpW 18 [iW 0,.int .i64 (.negSucc 0),iW 0,fW,fW,fW,.imm true [],.imm true [],.imm true [],.imm true [],iW 0] []) false),
(51,.arr 0 4 [[.sl 50 0 0 18 (some 18),.imm true [],.imm true [],iW 4]] false),
(286,.arr 0 1 (tkR 1000 256) true),
(318,.arr 0 1 (tkR 1256 256) true),
(350,.arr 0 1 (tkR 1512 256) true),
(382,.arr 0 1 (tkR 3000 256) true)]
def zHA:Nat:=815
def zHG:HV:=tW
def zPJ:qX:=JW++[
(54,.dead),
(113,.dead),
(124,.dead),
(155,.dead),
(196,.dead),
(237,.dead),
(292,.dead),
(1,.arr 0 256 ((tkL 3000 256 [])::(tkL 1000 256 [])::(tkL 1256 256 [])::(tkL 1512 256 [])::(tkL 1768 256 [])::rpW 19 (rpW 256 (bV 0) []) []) false),
(3,.map 0 5 .i64 []),
(5,.arr 0 5 [[.sl 7 17 0 18 none,.ref 3 0,.ref 4 0,.imm true [],iW 5]] false),
(7,.arr 17 11 (rpW 18 [iW 0,.int .i64 (.negSucc 0),.int .i64 (.negSucc 0),iW 0,fW,fW,fW,.imm true [],.imm true [],.imm true [],.imm true []] []) true),
(47,.arr 0 1 ([.sl 455 0 0 256 none]::[.sl 327 0 0 256 none]::[.sl 359 0 0 256 none]::[.sl 391 0 0 256 none]::[.sl 423 0 0 256 none]::rpW 19 [.imm true []] []) false),
(50,.arr 0 11 (rpW 18 [iW 0,.int .i64 (.negSucc 0),iW 0,fW,fW,fW,.imm true [],.imm true [],.imm true [],.imm true [],iW 0] []) false),
(51,.arr 0 4 [[.sl 50 0 0 18 (some 18),.imm true [],.imm true [],iW 5]] false),
(327,.arr 0 1 (tkR 1000 256) true),
(359,.arr 0 1 (tkR 1256 256) true),
(391,.arr 0 1 (tkR 1512 256) true),
(423,.arr 0 1 (tkR 1768 256) true),
(455,.arr 0 1 (tkR 3000 256) true)]
def zPM:Nat:=861
def zQm:HV:=tW
def zLd:qX:=Qu++[
(54,.dead),
(112,.dead),
(123,.dead),
(154,.dead),
(209,.dead),
(1,.arr 0 256 ((tkL 3000 256 [])::(tkL 1000 256 [])::(tkL 1256 256 [])::rpW 21 (rpW 256 (bV 0) []) []) false),
(3,.map 0 3 .i64 []),
(5,.arr 0 5 [[.sl 7 17 0 18 none,.ref 3 0,.ref 4 0,.imm true [],iW 3]] false),
(7,.arr 17 11 (rpW 18 [iW 0,.int .i64 (.negSucc 0),.int .i64 (.negSucc 0),iW 0,fW,fW,fW,.imm true [],.imm true [],.imm true [],.imm true []] []) true),
(47,.arr 0 1 ([.sl 308 0 0 256 none]::[.sl 244 0 0 256 none]::[.sl 276 0 0 256 none]::rpW 21 [.imm true []] []) false),
(50,.arr 0 11 (rpW 18 [iW 0,.int .i64 (.negSucc 0),iW 0,fW,fW,fW,.imm true [],.imm true [],.imm true [],.imm true [],iW 0] []) false),
(51,.arr 0 4 [[.sl 50 0 0 18 (some 18),.imm true [],.imm true [],iW 3]] false),
(244,.arr 0 1 (tkR 1000 256) true),
(276,.arr 0 1 (tkR 1256 256) true),
(308,.arr 0 1 (tkR 3000 256) true)]
def zLs:Nat:=768
section
variable [zB]
def zPZ (p c:Nat) (v:HV) (n:Nat) (E:qX) (v2:HV) (n2:Nat) (E2:qX):EC:=Vq 4 (Zg p) 0 [] v n E (Vq 5 (ZU v) n E v2 n2 E2 (zEy p c))
theorem vQ {p c:Nat} {v:HV} {n:Nat} {E:qX} {v2:HV} {n2:Nat} {E2:qX} {g:Bool} (hs:yg Tryz.prog 98 yu) (ok:qH (qB p c)) (h1:jU Tryz.prog 4 (Zg p) 0 [] v n E) (h2:jU Tryz.prog 5 (ZU v) n E v2 n2 E2)
  (h:zBJ (ZI Tryz.prog (zPZ p c v n E v2 n2 E2) YX epl 100000 60 3 [pvW p,.nam 3,.nam 4,.bool g] ⟨.emp,0⟩)=true):zI Tryz.prog 3 [pvW p,.nam 3,.nam 4,.bool g] [] fun r _=>r=.bool true:=
 zFC (zCb (zCb (gi hs ok) h2) h1) h
end
end Go.Proofs.YtbmibhjjogobhaaGreat
end
