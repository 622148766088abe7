/-
The law WalkLatched, run: rows and numbers by name; what the runs know.
The law WalkLatched, run: planted halls.
No conditions.
-/
import Derived.Test.YtajjhaidpagflaaGreatQTbA
import Derived.Test.YtajjhaidpagflaaGreatQTbB
set_option linter.unusedSectionVars false
set_option linter.unusedSimpArgs false
set_option linter.unusedVariables false
namespace Go.Proofs.YtajjhaidpagflaaGreat
open Go Go.Eng
set_option maxRecDepth 100000
/-- What is known of the rows by name. -/
structure WlIn (R:Nat→List (List HV)) (p c:Nat):Prop where
  r2:R 2=r16W++R 1
  n1:R 1≠[]
  s1:∀r∈R 1,r.length=1
  l1:(R 1).length≤17592186044400
  fl:∀i,Flat (.imm false (R i))
  cnt:(R p).length=c
  low:(R 6).length=1
noncomputable abbrev wlT (R:Nat→List (List HV)) (N:Nat→Int) (p c:Nat) (h:WlIn R p c):Toks where
  num i:=bif Nat.beq i 0 then Int.ofNat c else bif Nat.beq i 1 then Int.ofNat (nat_lit 1) else N i
  str _:=[]
  lo i:=bif Nat.beq i 0 then Int.ofNat c else bif Nat.beq i 1 then Int.ofNat (nat_lit 1) else N i
  hi i:=bif Nat.beq i 0 then Int.ofNat c else bif Nat.beq i 1 then Int.ofNat (nat_lit 1) else N i
  plus _ _:=none
  sum _ _:=none
  conv _ _:=none
  slen _:=none
  ord _ _:=none
  rem _ _:=none
  dt _:=false
  rows i:=R i
  rlen i:=bif Nat.beq i p then some 0 else bif Nat.beq i 6 then some 1 else none
  cat E i:=bif rwsEq E r16W&&Nat.beq i 1 then some 2 else none
  rng _:=⟨Int.le_refl _,Int.le_refl _⟩
  plus_ok _ _ _ h:=by cases h
  sum_ok _ _ _ h:=by cases h
  conv_ok _ _ _ h:=by cases h
  slen_ok _ _ h:=by cases h
  ord_ok _ _ _ h:=by cases h
  rem_ok _ _ _ h:=by cases h
  flat i:=h.fl i
  rlen_ok i j hj:=by
    cases hb:Nat.beq i p
    · rw[hb] at hj
      cases hb:Nat.beq i 6
      · rw[hb] at hj;cases hj
      · rw[hb] at hj
        cases hj
        obtain rfl:=Nat.eq_of_beq_eq_true hb
        exact congrArg Int.ofNat h.low.symm
    · rw[hb] at hj
      cases hj
      obtain rfl:=Nat.eq_of_beq_eq_true hb
      exact congrArg Int.ofNat h.cnt.symm
  cat_ok E i j hj:=by
    letI:Toks:=Toks.of (fun _=>0) (fun _=>[])
    cases hb:(rwsEq E r16W&&Nat.beq i 1)
    · rw[hb] at hj;cases hj
    · rw[hb] at hj
      cases hj
      rw[Bool.and_eq_true] at hb
      obtain rfl:=Nat.eq_of_beq_eq_true hb.2
      have e:E=r16W:=rwsEq_eq hb.1
      subst e
      refine⟨rfl,h.r2,h.n1,h.s1,?_⟩
      rw[List.length_append]
      have:=h.l1
      show 1+(R 1).length≤_
      omega
section
variable [Toks]
/-- Numbers for pivots,or none. -/
noncomputable def pvW (p:Nat):HV:=bif Nat.beq p 5 then .nam 1 else nilW
noncomputable def patW (p:Nat):List HV:=[iW 6,pvW p,.nam 3,.nam 4,nilW,fW]
end
end Go.Proofs.YtajjhaidpagflaaGreat
namespace Go.Proofs.YtajjhaidpagflaaGreat
open Go Go.Eng
set_option maxRecDepth 100000
noncomputable def w51v:HV:=.tup [pW 23 0 0 0,pW 46 0 0 0]
noncomputable def w51m:Ents2:=[
(0,.arr 0 1 ([tW]::[tW]::[tW]::rpW 21 [fW] []) false),
(1,.arr 0 256 (((bV 1)::(bV 0)::(bV 0)::(bV 0)::(bV 147)::(bV 244)::(bV 165)::(bV 195)::rpW 248 (bV 0) [])::((bV 1)::(bV 0)::(bV 0)::(bV 0)::(bV 147)::(bV 244)::(bV 165)::(bV 195)::rpW 248 (bV 0) [])::((bV 1)::(bV 0)::(bV 0)::(bV 0)::(bV 147)::(bV 244)::(bV 165)::(bV 195)::rpW 248 (bV 0) [])::rpW 21 (rpW 256 (bV 0) []) []) false),
(2,.arr 0 2 [[.sl 1 0 0 24 (some 24),.sl 0 0 0 24 (some 24)]] false),
(3,.map 0 3 .i64 [(0,1,iW 0),(1,2,iW 1),(2,0,iW 2)]),
(4,.map 0 0 .i64 []),
(5,.arr 0 5 [[.sl 7 14 0 15 none,.ref 3 0,.ref 4 0,.imm true [],iW 0]] false),
(7,.arr 14 11 ([iW 2,iW 1,.int .i64 (.negSucc 0),iW 0,tW,tW,tW,.nam 20,.imm false [],.imm false [],.imm false []]::[iW 2,iW 2,.int .i64 (.negSucc 0),iW 0,tW,tW,tW,.nam 21,.imm false [],.imm false [],.imm false []]::[iW 2,iW 0,.int .i64 (.negSucc 0),iW 0,tW,tW,fW,.imm false [],.sl 192 0 0 2 none,.nam 5,.nam 8]::rpW 12 [iW 0,.int .i64 (.negSucc 0),.int .i64 (.negSucc 0),iW 0,fW,fW,fW,.imm true [],.imm true [],.imm true [],.imm true []] []) true),
(22,.map 0 1 .i64 []),
(23,.arr 0 4 [[pW 5 0 0 0,pW 2 0 0 0,.sl 25 14 0 15 none,.ref 22 0]] false),
(24,.arr 0 4 [[iW 0,.imm true [],.int .i64 (.negSucc 0),.imm true []]] false),
(25,.arr 14 1 [[pW 24 0 0 0],[pW 26 0 0 0],[pW 27 0 0 0],[pW 28 0 0 0],[pW 29 0 0 0],[pW 30 0 0 0],[pW 31 0 0 0],[pW 32 0 0 0],[pW 33 0 0 0],[pW 34 0 0 0],[pW 35 0 0 0],[pW 36 0 0 0],[pW 37 0 0 0],[pW 38 0 0 0],[pW 39 0 0 0]] true),
(26,.arr 0 4 [[iW 0,.imm true [],.int .i64 (.negSucc 0),.imm true []]] false),
(27,.arr 0 4 [[iW 0,.imm true [],.int .i64 (.negSucc 0),.imm true []]] false),
(28,.arr 0 4 [[iW 0,.imm true [],.int .i64 (.negSucc 0),.imm true []]] false),
(29,.arr 0 4 [[iW 0,.imm true [],.int .i64 (.negSucc 0),.imm true []]] false),
(30,.arr 0 4 [[iW 0,.imm true [],.int .i64 (.negSucc 0),.imm true []]] false),
(31,.arr 0 4 [[iW 0,.imm true [],.int .i64 (.negSucc 0),.imm true []]] false),
(32,.arr 0 4 [[iW 0,.imm true [],.int .i64 (.negSucc 0),.imm true []]] false),
(33,.arr 0 4 [[iW 0,.imm true [],.int .i64 (.negSucc 0),.imm true []]] false),
(34,.arr 0 4 [[iW 0,.imm true [],.int .i64 (.negSucc 0),.imm true []]] false),
(35,.arr 0 4 [[iW 0,.imm true [],.int .i64 (.negSucc 0),.imm true []]] false),
(36,.arr 0 4 [[iW 0,.imm true [],.int .i64 (.negSucc 0),.imm true []]] false),
(37,.arr 0 4 [[iW 0,.imm true [],.int .i64 (.negSucc 0),.imm true []]] false),
(38,.arr 0 4 [[iW 0,.imm true [],.int .i64 (.negSucc 0),.imm true []]] false),
(39,.arr 0 4 [[iW 0,.imm true [],.int .i64 (.negSucc 0),.imm true []]] false),
(41,.arr 0 1 ([.sl 48 0 0 256 none]::[.sl 101 0 0 256 none]::[.sl 140 0 0 256 none]::rpW 21 [.imm true []] []) false),
(42,.arr 0 1 ([tW]::[tW]::[tW]::rpW 21 [fW] []) false),
(43,.arr 0 2 [[.sl 42 0 0 24 (some 24),.sl 41 0 0 24 (some 24)]] false),
(44,.arr 0 11 ([iW 2,iW 1,iW 0,tW,tW,tW,.nam 20,.imm true [],.imm true [],.imm true [],iW 0]::[iW 2,iW 2,iW 0,tW,tW,tW,.nam 21,.imm true [],.imm true [],.imm true [],iW 0]::[iW 2,iW 0,iW 0,tW,tW,fW,.imm true [],.sl 112 1 0 2 none,.nam 5,.nam 8,iW 7]::rpW 12 [iW 0,.int .i64 (.negSucc 0),iW 0,fW,fW,fW,.imm true [],.imm true [],.imm true [],.imm true [],iW 0] []) false),
(45,.arr 0 4 [[.sl 44 0 0 15 (some 15),.imm true [],.imm true [],iW 0]] false),
(46,.arr 0 3 [[pW 43 0 0 0,pW 45 0 0 0,.sl 50 14 0 15 none]] false),
(48,.arr 0 1 ([bV 1]::[bV 0]::[bV 0]::[bV 0]::[bV 147]::[bV 244]::[bV 165]::[bV 195]::rpW 248 [bV 0] []) true),
(49,.arr 0 4 [[.imm true [],.int .i64 (.negSucc 0),.imm true [],iW 0]] false),
(50,.arr 14 1 [[pW 49 0 0 0],[pW 51 0 0 0],[pW 52 0 0 0],[pW 53 0 0 0],[pW 54 0 0 0],[pW 55 0 0 0],[pW 56 0 0 0],[pW 57 0 0 0],[pW 58 0 0 0],[pW 59 0 0 0],[pW 60 0 0 0],[pW 61 0 0 0],[pW 62 0 0 0],[pW 63 0 0 0],[pW 64 0 0 0]] true),
(51,.arr 0 4 [[.imm true [],.int .i64 (.negSucc 0),.imm true [],iW 0]] false),
(52,.arr 0 4 [[.imm true [],.int .i64 (.negSucc 0),.imm true [],iW 0]] false),
(53,.arr 0 4 [[.imm true [],.int .i64 (.negSucc 0),.imm true [],iW 0]] false),
(54,.arr 0 4 [[.imm true [],.int .i64 (.negSucc 0),.imm true [],iW 0]] false),
(55,.arr 0 4 [[.imm true [],.int .i64 (.negSucc 0),.imm true [],iW 0]] false),
(56,.arr 0 4 [[.imm true [],.int .i64 (.negSucc 0),.imm true [],iW 0]] false),
(57,.arr 0 4 [[.imm true [],.int .i64 (.negSucc 0),.imm true [],iW 0]] false),
(58,.arr 0 4 [[.imm true [],.int .i64 (.negSucc 0),.imm true [],iW 0]] false),
(59,.arr 0 4 [[.imm true [],.int .i64 (.negSucc 0),.imm true [],iW 0]] false),
(60,.arr 0 4 [[.imm true [],.int .i64 (.negSucc 0),.imm true [],iW 0]] false),
(61,.arr 0 4 [[.imm true [],.int .i64 (.negSucc 0),.imm true [],iW 0]] false),
(62,.arr 0 4 [[.imm true [],.int .i64 (.negSucc 0),.imm true [],iW 0]] false),
(63,.arr 0 4 [[.imm true [],.int .i64 (.negSucc 0),.imm true [],iW 0]] false),
(64,.arr 0 4 [[.imm true [],.int .i64 (.negSucc 0),.imm true [],iW 0]] false),
(93,.iter 0 (.ref 4 0) 0 [] 0),
(101,.arr 0 1 ([bV 1]::[bV 0]::[bV 0]::[bV 0]::[bV 147]::[bV 244]::[bV 165]::[bV 195]::rpW 248 [bV 0] []) true),
(112,.arr 1 1 [[iW 1],[iW 2]] true),
(132,.iter 0 (.ref 4 0) 0 [] 0),
(140,.arr 0 1 ([bV 1]::[bV 0]::[bV 0]::[bV 0]::[bV 147]::[bV 244]::[bV 165]::[bV 195]::rpW 248 [bV 0] []) true),
(171,.iter 0 (.ref 4 0) 0 [] 0),
(192,.arr 0 1 [[iW 1],[iW 2]] true)]
def w51n:Nat:=196
noncomputable def w52v:HV:=.tup [pW 23 0 0 0,pW 46 0 0 0]
noncomputable def w52m:Ents2:=[
(0,.arr 0 1 ([tW]::[tW]::[tW]::[tW]::rpW 20 [fW] []) false),
(1,.arr 0 256 (((bV 1)::(bV 0)::(bV 0)::(bV 0)::(bV 147)::(bV 244)::(bV 165)::(bV 195)::rpW 248 (bV 0) [])::((bV 1)::(bV 0)::(bV 0)::(bV 0)::(bV 147)::(bV 244)::(bV 165)::(bV 195)::rpW 248 (bV 0) [])::((bV 1)::(bV 0)::(bV 0)::(bV 0)::(bV 147)::(bV 244)::(bV 165)::(bV 195)::rpW 248 (bV 0) [])::((bV 1)::(bV 0)::(bV 0)::(bV 0)::(bV 147)::(bV 244)::(bV 165)::(bV 195)::rpW 248 (bV 0) [])::rpW 20 (rpW 256 (bV 0) []) []) false),
(2,.arr 0 2 [[.sl 1 0 0 24 (some 24),.sl 0 0 0 24 (some 24)]] false),
(3,.map 0 4 .i64 [(0,1,iW 0),(1,2,iW 1),(2,3,iW 2),(3,0,iW 3)]),
(4,.map 0 0 .i64 []),
(5,.arr 0 5 [[.sl 7 14 0 15 none,.ref 3 0,.ref 4 0,.imm true [],iW 0]] false),
(7,.arr 14 11 ([iW 2,iW 1,.int .i64 (.negSucc 0),iW 0,tW,tW,tW,.nam 20,.imm false [],.imm false [],.imm false []]::[iW 2,iW 2,.int .i64 (.negSucc 0),iW 0,tW,tW,tW,.nam 21,.imm false [],.imm false [],.imm false []]::[iW 2,iW 3,.int .i64 (.negSucc 0),iW 0,tW,tW,tW,.nam 22,.imm false [],.imm false [],.imm false []]::[iW 2,iW 0,.int .i64 (.negSucc 0),iW 0,tW,tW,fW,.imm false [],.sl 230 0 0 3 none,.nam 5,.nam 8]::rpW 11 [iW 0,.int .i64 (.negSucc 0),.int .i64 (.negSucc 0),iW 0,fW,fW,fW,.imm true [],.imm true [],.imm true [],.imm true []] []) true),
(22,.map 0 1 .i64 []),
(23,.arr 0 4 [[pW 5 0 0 0,pW 2 0 0 0,.sl 25 14 0 15 none,.ref 22 0]] false),
(24,.arr 0 4 [[iW 0,.imm true [],.int .i64 (.negSucc 0),.imm true []]] false),
(25,.arr 14 1 [[pW 24 0 0 0],[pW 26 0 0 0],[pW 27 0 0 0],[pW 28 0 0 0],[pW 29 0 0 0],[pW 30 0 0 0],[pW 31 0 0 0],[pW 32 0 0 0],[pW 33 0 0 0],[pW 34 0 0 0],[pW 35 0 0 0],[pW 36 0 0 0],[pW 37 0 0 0],[pW 38 0 0 0],[pW 39 0 0 0]] true),
(26,.arr 0 4 [[iW 0,.imm true [],.int .i64 (.negSucc 0),.imm true []]] false),
(27,.arr 0 4 [[iW 0,.imm true [],.int .i64 (.negSucc 0),.imm true []]] false),
(28,.arr 0 4 [[iW 0,.imm true [],.int .i64 (.negSucc 0),.imm true []]] false),
(29,.arr 0 4 [[iW 0,.imm true [],.int .i64 (.negSucc 0),.imm true []]] false),
(30,.arr 0 4 [[iW 0,.imm true [],.int .i64 (.negSucc 0),.imm true []]] false),
(31,.arr 0 4 [[iW 0,.imm true [],.int .i64 (.negSucc 0),.imm true []]] false),
(32,.arr 0 4 [[iW 0,.imm true [],.int .i64 (.negSucc 0),.imm true []]] false),
(33,.arr 0 4 [[iW 0,.imm true [],.int .i64 (.negSucc 0),.imm true []]] false),
(34,.arr 0 4 [[iW 0,.imm true [],.int .i64 (.negSucc 0),.imm true []]] false),
(35,.arr 0 4 [[iW 0,.imm true [],.int .i64 (.negSucc 0),.imm true []]] false),
(36,.arr 0 4 [[iW 0,.imm true [],.int .i64 (.negSucc 0),.imm true []]] false),
(37,.arr 0 4 [[iW 0,.imm true [],.int .i64 (.negSucc 0),.imm true []]] false),
(38,.arr 0 4 [[iW 0,.imm true [],.int .i64 (.negSucc 0),.imm true []]] false),
(39,.arr 0 4 [[iW 0,.imm true [],.int .i64 (.negSucc 0),.imm true []]] false),
(41,.arr 0 1 ([.sl 48 0 0 256 none]::[.sl 101 0 0 256 none]::[.sl 140 0 0 256 none]::[.sl 178 0 0 256 none]::rpW 20 [.imm true []] []) false),
(42,.arr 0 1 ([tW]::[tW]::[tW]::[tW]::rpW 20 [fW] []) false),
(43,.arr 0 2 [[.sl 42 0 0 24 (some 24),.sl 41 0 0 24 (some 24)]] false),
(44,.arr 0 11 ([iW 2,iW 1,iW 0,tW,tW,tW,.nam 20,.imm true [],.imm true [],.imm true [],iW 0]::[iW 2,iW 2,iW 0,tW,tW,tW,.nam 21,.imm true [],.imm true [],.imm true [],iW 0]::[iW 2,iW 3,iW 0,tW,tW,tW,.nam 22,.imm true [],.imm true [],.imm true [],iW 0]::[iW 2,iW 0,iW 0,tW,tW,fW,.imm true [],.sl 112 2 0 3 none,.nam 5,.nam 8,iW 7]::rpW 11 [iW 0,.int .i64 (.negSucc 0),iW 0,fW,fW,fW,.imm true [],.imm true [],.imm true [],.imm true [],iW 0] []) false),
(45,.arr 0 4 [[.sl 44 0 0 15 (some 15),.imm true [],.imm true [],iW 0]] false),
(46,.arr 0 3 [[pW 43 0 0 0,pW 45 0 0 0,.sl 50 14 0 15 none]] false),
(48,.arr 0 1 ([bV 1]::[bV 0]::[bV 0]::[bV 0]::[bV 147]::[bV 244]::[bV 165]::[bV 195]::rpW 248 [bV 0] []) true),
(49,.arr 0 4 [[.imm true [],.int .i64 (.negSucc 0),.imm true [],iW 0]] false),
(50,.arr 14 1 [[pW 49 0 0 0],[pW 51 0 0 0],[pW 52 0 0 0],[pW 53 0 0 0],[pW 54 0 0 0],[pW 55 0 0 0],[pW 56 0 0 0],[pW 57 0 0 0],[pW 58 0 0 0],[pW 59 0 0 0],[pW 60 0 0 0],[pW 61 0 0 0],[pW 62 0 0 0],[pW 63 0 0 0],[pW 64 0 0 0]] true),
(51,.arr 0 4 [[.imm true [],.int .i64 (.negSucc 0),.imm true [],iW 0]] false),
(52,.arr 0 4 [[.imm true [],.int .i64 (.negSucc 0),.imm true [],iW 0]] false),
(53,.arr 0 4 [[.imm true [],.int .i64 (.negSucc 0),.imm true [],iW 0]] false),
(54,.arr 0 4 [[.imm true [],.int .i64 (.negSucc 0),.imm true [],iW 0]] false),
(55,.arr 0 4 [[.imm true [],.int .i64 (.negSucc 0),.imm true [],iW 0]] false),
(56,.arr 0 4 [[.imm true [],.int .i64 (.negSucc 0),.imm true [],iW 0]] false),
(57,.arr 0 4 [[.imm true [],.int .i64 (.negSucc 0),.imm true [],iW 0]] false),
(58,.arr 0 4 [[.imm true [],.int .i64 (.negSucc 0),.imm true [],iW 0]] false),
(59,.arr 0 4 [[.imm true [],.int .i64 (.negSucc 0),.imm true [],iW 0]] false),
(60,.arr 0 4 [[.imm true [],.int .i64 (.negSucc 0),.imm true [],iW 0]] false),
(61,.arr 0 4 [[.imm true [],.int .i64 (.negSucc 0),.imm true [],iW 0]] false),
(62,.arr 0 4 [[.imm true [],.int .i64 (.negSucc 0),.imm true [],iW 0]] false),
(63,.arr 0 4 [[.imm true [],.int .i64 (.negSucc 0),.imm true [],iW 0]] false),
(64,.arr 0 4 [[.imm true [],.int .i64 (.negSucc 0),.imm true [],iW 0]] false),
(93,.iter 0 (.ref 4 0) 0 [] 0),
(101,.arr 0 1 ([bV 1]::[bV 0]::[bV 0]::[bV 0]::[bV 147]::[bV 244]::[bV 165]::[bV 195]::rpW 248 [bV 0] []) true),
(112,.arr 2 1 [[iW 1],[iW 2],[iW 3]] true),
(132,.iter 0 (.ref 4 0) 0 [] 0),
(140,.arr 0 1 ([bV 1]::[bV 0]::[bV 0]::[bV 0]::[bV 147]::[bV 244]::[bV 165]::[bV 195]::rpW 248 [bV 0] []) true),
(170,.iter 0 (.ref 4 0) 0 [] 0),
(178,.arr 0 1 ([bV 1]::[bV 0]::[bV 0]::[bV 0]::[bV 147]::[bV 244]::[bV 165]::[bV 195]::rpW 248 [bV 0] []) true),
(209,.iter 0 (.ref 4 0) 0 [] 0),
(230,.arr 0 1 [[iW 1],[iW 2],[iW 3]] true)]
def w52n:Nat:=234
noncomputable def w53v:HV:=.tup [pW 23 0 0 0,pW 46 0 0 0]
noncomputable def w53m:Ents2:=[
(0,.arr 0 1 (rpW 5 [tW] (rpW 19 [fW] [])) false),
(1,.arr 0 256 (rpW 5 ((bV 1)::(bV 0)::(bV 0)::(bV 0)::(bV 147)::(bV 244)::(bV 165)::(bV 195)::rpW 248 (bV 0) []) (rpW 19 (rpW 256 (bV 0) []) [])) false),
(2,.arr 0 2 [[.sl 1 0 0 24 (some 24),.sl 0 0 0 24 (some 24)]] false),
(3,.map 0 5 .i64 [(0,1,iW 0),(1,2,iW 1),(2,3,iW 2),(3,4,iW 3),(4,0,iW 4)]),
(4,.map 0 0 .i64 []),
(5,.arr 0 5 [[.sl 7 14 0 15 none,.ref 3 0,.ref 4 0,.imm true [],iW 0]] false),
(7,.arr 14 11 ([iW 2,iW 1,.int .i64 (.negSucc 0),iW 0,tW,tW,tW,.nam 20,.imm false [],.imm false [],.imm false []]::[iW 2,iW 2,.int .i64 (.negSucc 0),iW 0,tW,tW,tW,.nam 21,.imm false [],.imm false [],.imm false []]::[iW 2,iW 3,.int .i64 (.negSucc 0),iW 0,tW,tW,tW,.nam 22,.imm false [],.imm false [],.imm false []]::[iW 2,iW 4,.int .i64 (.negSucc 0),iW 0,tW,tW,tW,.nam 23,.imm false [],.imm false [],.imm false []]::[iW 2,iW 0,.int .i64 (.negSucc 0),iW 0,tW,tW,fW,.imm false [],.sl 268 0 0 4 none,.nam 5,.nam 8]::rpW 10 [iW 0,.int .i64 (.negSucc 0),.int .i64 (.negSucc 0),iW 0,fW,fW,fW,.imm true [],.imm true [],.imm true [],.imm true []] []) true),
(22,.map 0 1 .i64 []),
(23,.arr 0 4 [[pW 5 0 0 0,pW 2 0 0 0,.sl 25 14 0 15 none,.ref 22 0]] false),
(24,.arr 0 4 [[iW 0,.imm true [],.int .i64 (.negSucc 0),.imm true []]] false),
(25,.arr 14 1 [[pW 24 0 0 0],[pW 26 0 0 0],[pW 27 0 0 0],[pW 28 0 0 0],[pW 29 0 0 0],[pW 30 0 0 0],[pW 31 0 0 0],[pW 32 0 0 0],[pW 33 0 0 0],[pW 34 0 0 0],[pW 35 0 0 0],[pW 36 0 0 0],[pW 37 0 0 0],[pW 38 0 0 0],[pW 39 0 0 0]] true),
(26,.arr 0 4 [[iW 0,.imm true [],.int .i64 (.negSucc 0),.imm true []]] false),
(27,.arr 0 4 [[iW 0,.imm true [],.int .i64 (.negSucc 0),.imm true []]] false),
(28,.arr 0 4 [[iW 0,.imm true [],.int .i64 (.negSucc 0),.imm true []]] false),
(29,.arr 0 4 [[iW 0,.imm true [],.int .i64 (.negSucc 0),.imm true []]] false),
(30,.arr 0 4 [[iW 0,.imm true [],.int .i64 (.negSucc 0),.imm true []]] false),
(31,.arr 0 4 [[iW 0,.imm true [],.int .i64 (.negSucc 0),.imm true []]] false),
(32,.arr 0 4 [[iW 0,.imm true [],.int .i64 (.negSucc 0),.imm true []]] false),
(33,.arr 0 4 [[iW 0,.imm true [],.int .i64 (.negSucc 0),.imm true []]] false),
(34,.arr 0 4 [[iW 0,.imm true [],.int .i64 (.negSucc 0),.imm true []]] false),
(35,.arr 0 4 [[iW 0,.imm true [],.int .i64 (.negSucc 0),.imm true []]] false),
(36,.arr 0 4 [[iW 0,.imm true [],.int .i64 (.negSucc 0),.imm true []]] false),
(37,.arr 0 4 [[iW 0,.imm true [],.int .i64 (.negSucc 0),.imm true []]] false),
(38,.arr 0 4 [[iW 0,.imm true [],.int .i64 (.negSucc 0),.imm true []]] false),
(39,.arr 0 4 [[iW 0,.imm true [],.int .i64 (.negSucc 0),.imm true []]] false),
(41,.arr 0 1 ([.sl 48 0 0 256 none]::[.sl 101 0 0 256 none]::[.sl 140 0 0 256 none]::[.sl 178 0 0 256 none]::[.sl 216 0 0 256 none]::rpW 19 [.imm true []] []) false),
(42,.arr 0 1 (rpW 5 [tW] (rpW 19 [fW] [])) false),
(43,.arr 0 2 [[.sl 42 0 0 24 (some 24),.sl 41 0 0 24 (some 24)]] false),
(44,.arr 0 11 ([iW 2,iW 1,iW 0,tW,tW,tW,.nam 20,.imm true [],.imm true [],.imm true [],iW 0]::[iW 2,iW 2,iW 0,tW,tW,tW,.nam 21,.imm true [],.imm true [],.imm true [],iW 0]::[iW 2,iW 3,iW 0,tW,tW,tW,.nam 22,.imm true [],.imm true [],.imm true [],iW 0]::[iW 2,iW 4,iW 0,tW,tW,tW,.nam 23,.imm true [],.imm true [],.imm true [],iW 0]::[iW 2,iW 0,iW 0,tW,tW,fW,.imm true [],.sl 112 3 0 4 none,.nam 5,.nam 8,iW 7]::rpW 10 [iW 0,.int .i64 (.negSucc 0),iW 0,fW,fW,fW,.imm true [],.imm true [],.imm true [],.imm true [],iW 0] []) false),
(45,.arr 0 4 [[.sl 44 0 0 15 (some 15),.imm true [],.imm true [],iW 0]] false),
(46,.arr 0 3 [[pW 43 0 0 0,pW 45 0 0 0,.sl 50 14 0 15 none]] false),
(48,.arr 0 1 ([bV 1]::[bV 0]::[bV 0]::[bV 0]::[bV 147]::[bV 244]::[bV 165]::[bV 195]::rpW 248 [bV 0] []) true),
(49,.arr 0 4 [[.imm true [],.int .i64 (.negSucc 0),.imm true [],iW 0]] false),
(50,.arr 14 1 [[pW 49 0 0 0],[pW 51 0 0 0],[pW 52 0 0 0],[pW 53 0 0 0],[pW 54 0 0 0],[pW 55 0 0 0],[pW 56 0 0 0],[pW 57 0 0 0],[pW 58 0 0 0],[pW 59 0 0 0],[pW 60 0 0 0],[pW 61 0 0 0],[pW 62 0 0 0],[pW 63 0 0 0],[pW 64 0 0 0]] true),
(51,.arr 0 4 [[.imm true [],.int .i64 (.negSucc 0),.imm true [],iW 0]] false),
(52,.arr 0 4 [[.imm true [],.int .i64 (.negSucc 0),.imm true [],iW 0]] false),
(53,.arr 0 4 [[.imm true [],.int .i64 (.negSucc 0),.imm true [],iW 0]] false),
(54,.arr 0 4 [[.imm true [],.int .i64 (.negSucc 0),.imm true [],iW 0]] false),
(55,.arr 0 4 [[.imm true [],.int .i64 (.negSucc 0),.imm true [],iW 0]] false),
(56,.arr 0 4 [[.imm true [],.int .i64 (.negSucc 0),.imm true [],iW 0]] false),
(57,.arr 0 4 [[.imm true [],.int .i64 (.negSucc 0),.imm true [],iW 0]] false),
(58,.arr 0 4 [[.imm true [],.int .i64 (.negSucc 0),.imm true [],iW 0]] false),
(59,.arr 0 4 [[.imm true [],.int .i64 (.negSucc 0),.imm true [],iW 0]] false),
(60,.arr 0 4 [[.imm true [],.int .i64 (.negSucc 0),.imm true [],iW 0]] false),
(61,.arr 0 4 [[.imm true [],.int .i64 (.negSucc 0),.imm true [],iW 0]] false),
(62,.arr 0 4 [[.imm true [],.int .i64 (.negSucc 0),.imm true [],iW 0]] false),
(63,.arr 0 4 [[.imm true [],.int .i64 (.negSucc 0),.imm true [],iW 0]] false),
(64,.arr 0 4 [[.imm true [],.int .i64 (.negSucc 0),.imm true [],iW 0]] false),
(93,.iter 0 (.ref 4 0) 0 [] 0),
(101,.arr 0 1 ([bV 1]::[bV 0]::[bV 0]::[bV 0]::[bV 147]::[bV 244]::[bV 165]::[bV 195]::rpW 248 [bV 0] []) true),
(112,.arr 3 1 [[iW 1],[iW 2],[iW 3],[iW 4]] true),
(132,.iter 0 (.ref 4 0) 0 [] 0),
(140,.arr 0 1 ([bV 1]::[bV 0]::[bV 0]::[bV 0]::[bV 147]::[bV 244]::[bV 165]::[bV 195]::rpW 248 [bV 0] []) true),
(170,.iter 0 (.ref 4 0) 0 [] 0),
(178,.arr 0 1 ([bV 1]::[bV 0]::[bV 0]::[bV 0]::[bV 147]::[bV 244]::[bV 165]::[bV 195]::rpW 248 [bV 0] []) true),
(208,.iter 0 (.ref 4 0) 0 [] 0),
(216,.arr 0 1 ([bV 1]::[bV 0]::[bV 0]::[bV 0]::[bV 147]::[bV 244]::[bV 165]::[bV 195]::rpW 248 [bV 0] []) true),
(247,.iter 0 (.ref 4 0) 0 [] 0),
(268,.arr 0 1 [[iW 1],[iW 2],[iW 3],[iW 4]] true)]
def w53n:Nat:=272
noncomputable def w61v:HV:=.tup [pW 23 0 0 0,pW 46 0 0 0]
noncomputable def w61m:Ents2:=[
(0,.arr 0 1 ([tW]::[tW]::[tW]::rpW 21 [fW] []) false),
(1,.arr 0 256 (((bV 1)::(bV 0)::(bV 0)::(bV 0)::(bV 147)::(bV 244)::(bV 165)::(bV 195)::rpW 248 (bV 0) [])::((bV 1)::(bV 0)::(bV 0)::(bV 0)::(bV 147)::(bV 244)::(bV 165)::(bV 195)::rpW 248 (bV 0) [])::((bV 1)::(bV 0)::(bV 0)::(bV 0)::(bV 147)::(bV 244)::(bV 165)::(bV 195)::rpW 248 (bV 0) [])::rpW 21 (rpW 256 (bV 0) []) []) false),
(2,.arr 0 2 [[.sl 1 0 0 24 (some 24),.sl 0 0 0 24 (some 24)]] false),
(3,.map 0 3 .i64 [(0,1,iW 0),(1,2,iW 1),(2,0,iW 2)]),
(4,.map 0 0 .i64 []),
(5,.arr 0 5 [[.sl 7 14 0 15 none,.ref 3 0,.ref 4 0,.imm true [],iW 0]] false),
(7,.arr 14 11 ([iW 2,iW 1,.int .i64 (.negSucc 0),iW 0,tW,tW,tW,.nam 20,.imm false [],.imm false [],.imm false []]::[iW 2,iW 2,.int .i64 (.negSucc 0),iW 0,tW,tW,tW,.nam 21,.imm false [],.imm false [],.imm false []]::[iW 2,iW 0,.int .i64 (.negSucc 0),iW 0,tW,tW,fW,.imm false [],.sl 191 0 0 2 none,.nam 6,.nam 8]::rpW 12 [iW 0,.int .i64 (.negSucc 0),.int .i64 (.negSucc 0),iW 0,fW,fW,fW,.imm true [],.imm true [],.imm true [],.imm true []] []) true),
(22,.map 0 1 .i64 []),
(23,.arr 0 4 [[pW 5 0 0 0,pW 2 0 0 0,.sl 25 14 0 15 none,.ref 22 0]] false),
(24,.arr 0 4 [[iW 0,.imm true [],.int .i64 (.negSucc 0),.imm true []]] false),
(25,.arr 14 1 [[pW 24 0 0 0],[pW 26 0 0 0],[pW 27 0 0 0],[pW 28 0 0 0],[pW 29 0 0 0],[pW 30 0 0 0],[pW 31 0 0 0],[pW 32 0 0 0],[pW 33 0 0 0],[pW 34 0 0 0],[pW 35 0 0 0],[pW 36 0 0 0],[pW 37 0 0 0],[pW 38 0 0 0],[pW 39 0 0 0]] true),
(26,.arr 0 4 [[iW 0,.imm true [],.int .i64 (.negSucc 0),.imm true []]] false),
(27,.arr 0 4 [[iW 0,.imm true [],.int .i64 (.negSucc 0),.imm true []]] false),
(28,.arr 0 4 [[iW 0,.imm true [],.int .i64 (.negSucc 0),.imm true []]] false),
(29,.arr 0 4 [[iW 0,.imm true [],.int .i64 (.negSucc 0),.imm true []]] false),
(30,.arr 0 4 [[iW 0,.imm true [],.int .i64 (.negSucc 0),.imm true []]] false),
(31,.arr 0 4 [[iW 0,.imm true [],.int .i64 (.negSucc 0),.imm true []]] false),
(32,.arr 0 4 [[iW 0,.imm true [],.int .i64 (.negSucc 0),.imm true []]] false),
(33,.arr 0 4 [[iW 0,.imm true [],.int .i64 (.negSucc 0),.imm true []]] false),
(34,.arr 0 4 [[iW 0,.imm true [],.int .i64 (.negSucc 0),.imm true []]] false),
(35,.arr 0 4 [[iW 0,.imm true [],.int .i64 (.negSucc 0),.imm true []]] false),
(36,.arr 0 4 [[iW 0,.imm true [],.int .i64 (.negSucc 0),.imm true []]] false),
(37,.arr 0 4 [[iW 0,.imm true [],.int .i64 (.negSucc 0),.imm true []]] false),
(38,.arr 0 4 [[iW 0,.imm true [],.int .i64 (.negSucc 0),.imm true []]] false),
(39,.arr 0 4 [[iW 0,.imm true [],.int .i64 (.negSucc 0),.imm true []]] false),
(41,.arr 0 1 ([.sl 48 0 0 256 none]::[.sl 100 0 0 256 none]::[.sl 139 0 0 256 none]::rpW 21 [.imm true []] []) false),
(42,.arr 0 1 ([tW]::[tW]::[tW]::rpW 21 [fW] []) false),
(43,.arr 0 2 [[.sl 42 0 0 24 (some 24),.sl 41 0 0 24 (some 24)]] false),
(44,.arr 0 11 ([iW 2,iW 1,iW 0,tW,tW,tW,.nam 20,.imm true [],.imm true [],.imm true [],iW 0]::[iW 2,iW 2,iW 0,tW,tW,tW,.nam 21,.imm true [],.imm true [],.imm true [],iW 0]::[iW 2,iW 0,iW 0,tW,tW,fW,.imm true [],.sl 111 1 0 2 none,.nam 6,.nam 8,iW 7]::rpW 12 [iW 0,.int .i64 (.negSucc 0),iW 0,fW,fW,fW,.imm true [],.imm true [],.imm true [],.imm true [],iW 0] []) false),
(45,.arr 0 4 [[.sl 44 0 0 15 (some 15),.imm true [],.imm true [],iW 0]] false),
(46,.arr 0 3 [[pW 43 0 0 0,pW 45 0 0 0,.sl 50 14 0 15 none]] false),
(48,.arr 0 1 ([bV 1]::[bV 0]::[bV 0]::[bV 0]::[bV 147]::[bV 244]::[bV 165]::[bV 195]::rpW 248 [bV 0] []) true),
(49,.arr 0 4 [[.imm true [],.int .i64 (.negSucc 0),.imm true [],iW 0]] false),
(50,.arr 14 1 [[pW 49 0 0 0],[pW 51 0 0 0],[pW 52 0 0 0],[pW 53 0 0 0],[pW 54 0 0 0],[pW 55 0 0 0],[pW 56 0 0 0],[pW 57 0 0 0],[pW 58 0 0 0],[pW 59 0 0 0],[pW 60 0 0 0],[pW 61 0 0 0],[pW 62 0 0 0],[pW 63 0 0 0],[pW 64 0 0 0]] true),
(51,.arr 0 4 [[.imm true [],.int .i64 (.negSucc 0),.imm true [],iW 0]] false),
(52,.arr 0 4 [[.imm true [],.int .i64 (.negSucc 0),.imm true [],iW 0]] false),
(53,.arr 0 4 [[.imm true [],.int .i64 (.negSucc 0),.imm true [],iW 0]] false),
(54,.arr 0 4 [[.imm true [],.int .i64 (.negSucc 0),.imm true [],iW 0]] false),
(55,.arr 0 4 [[.imm true [],.int .i64 (.negSucc 0),.imm true [],iW 0]] false),
(56,.arr 0 4 [[.imm true [],.int .i64 (.negSucc 0),.imm true [],iW 0]] false),
(57,.arr 0 4 [[.imm true [],.int .i64 (.negSucc 0),.imm true [],iW 0]] false),
(58,.arr 0 4 [[.imm true [],.int .i64 (.negSucc 0),.imm true [],iW 0]] false),
(59,.arr 0 4 [[.imm true [],.int .i64 (.negSucc 0),.imm true [],iW 0]] false),
(60,.arr 0 4 [[.imm true [],.int .i64 (.negSucc 0),.imm true [],iW 0]] false),
(61,.arr 0 4 [[.imm true [],.int .i64 (.negSucc 0),.imm true [],iW 0]] false),
(62,.arr 0 4 [[.imm true [],.int .i64 (.negSucc 0),.imm true [],iW 0]] false),
(63,.arr 0 4 [[.imm true [],.int .i64 (.negSucc 0),.imm true [],iW 0]] false),
(64,.arr 0 4 [[.imm true [],.int .i64 (.negSucc 0),.imm true [],iW 0]] false),
(92,.iter 0 (.ref 4 0) 0 [] 0),
(100,.arr 0 1 ([bV 1]::[bV 0]::[bV 0]::[bV 0]::[bV 147]::[bV 244]::[bV 165]::[bV 195]::rpW 248 [bV 0] []) true),
(111,.arr 1 1 [[iW 1],[iW 2]] true),
(131,.iter 0 (.ref 4 0) 0 [] 0),
(139,.arr 0 1 ([bV 1]::[bV 0]::[bV 0]::[bV 0]::[bV 147]::[bV 244]::[bV 165]::[bV 195]::rpW 248 [bV 0] []) true),
(170,.iter 0 (.ref 4 0) 0 [] 0),
(191,.arr 0 1 [[iW 1],[iW 2]] true)]
def w61n:Nat:=195
section
variable [Toks]
noncomputable def dsMay (g:Nat):Bool:=Nat.beq g 13
/-- All that a run knows behind the planting. -/
noncomputable def orcB (p c j:Nat) (met f g:Bool) (v:HV) (n:Nat) (E:Ents2):EC:=orcD Tryz.prog (orcC 4 (patW p) 0 [] v n E (orcK (tabP p c++tabW p j met f g))) ecov epl 100000 60 dsMay 1
theorem orcB_ok {p c j:Nat} {met f g:Bool} {v:HV} {n:Nat} {E:Ents2} (h:CutR Tryz.prog 4 (patW p) 0 [] v n E) (ok:TabOk (tabP p c++tabW p j met f g)):ECOk Tryz.prog (orcB p c j met f g v n E):=
  orcD_ok mixed' (orcC_ok (orcK_ok ok) h) covers 1
noncomputable def runB (p c j:Nat) (b:HV) (met f g:Bool) (v:HV) (n:Nat) (E:Ents2):Bool:=allTrue (acall Tryz.prog (orcB p c j met f g v n E) ecov epl 100000 60 3 [pvW p,.nam 3,.nam 4,.tok .i64 40,b] ⟨.emp,0⟩)
/-- All ways:Root has no message for the key;it has one. -/
noncomputable def runsN (p c j:Nat) (b:HV) (v:HV) (n:Nat) (E:Ents2):Bool:=runB p c j b false false false v n E&&runB p c j b false true true v n E
noncomputable def runsM (p c j:Nat) (b:HV) (f:Bool) (v:HV) (n:Nat) (E:Ents2):Bool:=runB p c j b true f false v n E&&runB p c j b true f true v n E
def Runs (p c j:Nat) (b:HV) (v:HV) (n:Nat) (E:Ents2):Prop:=runsN p c j b v n E=true∧runsM p c j b false v n E=true∧runsM p c j b true v n E=true
theorem runs_h {p c j:Nat} {b v:HV} {n:Nat} {E:Ents2} (h:Runs p c j b v n E) (hc:CutR Tryz.prog 4 (patW p) 0 [] v n E) (met f g:Bool) (hg:met=false→g=f) (ok:TabOk (tabP p c++tabW p j met f g)):
    HCall Tryz.prog 3 [pvW p,.nam 3,.nam 4,.tok .i64 40,b] [] fun r _=>r=.bool true:=by
  simp only[Runs,runsN,runsM,Bool.and_eq_true] at h
  obtain⟨⟨h1,h2⟩,⟨h3,h4⟩,h5,h6⟩:=h
  have:runB p c j b met f g v n E=true:=by
    cases met
    · obtain rfl:=hg rfl
      cases g
      · exact h1
      · exact h2
    · cases f<;>cases g
      · exact h3
      · exact h4
      · exact h5
      · exact h6
  exact trueWs (orcB_ok hc ok) this
end
end Go.Proofs.YtajjhaidpagflaaGreat
