/-
Values for tables of what runs know.
The law WalkLatched: what the runs know, by tables.
No conditions.
-/
import Derived.Test.YtajjhaidpagflaaGreatQEngZ
set_option linter.unusedSectionVars false
set_option linter.unusedSimpArgs false
set_option linter.unusedVariables false
namespace Go.Proofs.YtajjhaidpagflaaGreat
open Go Go.Eng
def iW (n:Nat):HV:=.int .i64 (.ofNat n)
def bV (n:Nat):HV:=.int .u8 (.ofNat n)
def tW:HV:=.bool true
def fW:HV:=.bool false
def pW (a b c d:Nat):HV:=.ptr a b c d
def rpW {α:Type} (n:Nat) (x:α) (l:List α):List α:=Nat.rec (motive:=fun _=>List α) l (fun _ ih=>x::ih) n
def tkL (b n:Nat) (l:List HV):List HV:=Nat.rec (motive:=fun _=>Nat→List HV) (fun _=>l) (fun _ ih b=>.tok .u8 b::ih (b+1)) n b
abbrev Tab:=List (List HV×HV)
def nilW:HV:=.imm false []
def r16W:List (List HV):=[[iW 16]]
def kidW (n:Nat):List HV:=[iW n]
def kidsW (c:Nat):List (List HV):=(List.range (c+1)).map fun i=>kidW (i+1)
def keyW:List HV:=.tok .i64 52::tkL 53 8 []
def leafW (i:Nat):HV:=.agg [.bool true,.nam i,nilW,nilW,nilW]
def topW (p c:Nat) (M:HV):HV:=.agg [.bool false,nilW,.imm false (kidsW c),.nam p,M]
def noneW:HV:=.agg [.bool true,nilW,nilW,nilW,nilW]
/-- The bytes of the leaf that has nothing. -/
def zW:List (List HV):=[bV 1]::[bV 0]::[bV 0]::[bV 0]::[bV 147]::[bV 244]::[bV 165]::[bV 195]::rpW 248 [bV 0] []
def upTo (c:Nat) (f:Nat→List HV×HV):Tab:=(List.range (c+1)).map f
end Go.Proofs.YtajjhaidpagflaaGreat
namespace Go.Proofs.YtajjhaidpagflaaGreat
open Go Go.Eng
def valW (b:Nat):List HV:=.tok .i64 b::tkL (b+1) 16 []
def msgW:List HV:=.tok .i64 100:: .tok .u64 101:: .tok .i64 102::tkL 103 8 (.tok .i64 111::tkL 112 16 [.tok .u64 128])
def tPiv:Tab:=[([.nam 2,iW 3],.nam 5),([.imm false r16W,iW 3],.nam 6)]
def tMsg:Tab:=[([.nam 4,iW 205],.nam 8),([nilW,iW 205],nilW)]
def tEnt:Tab:=[([.nam 3,iW 700],.nam 7)]
def tHld (p c:Nat):Tab:=upTo c fun i=>([.nam 7,.nam p,iW i],.nam (10+i))
def tFit (c:Nat):Tab:=upTo c fun i=>([.nam (10+i)],.nam (20+i))
def tFts (p c:Nat):Tab:=([topW p c (.nam 8)],.bool true)::upTo c fun i=>([leafW (20+i)],.bool true)
def tEnc:Tab:=[([noneW],.tup [.imm false zW,iW 0])]
def tDec:Tab:=[([.imm false zW],.tup [noneW,iW 0])]
def tClE (c:Nat):Tab:=upTo c fun i=>([.nam (20+i)],.nam (20+i))
def tClK (p:Nat):Tab:=[([.nam p],.nam p)]
def tClM:Tab:=[([.nam 8],.nam 8)]
/-- What planting asks for. -/
def tabP (p c:Nat):List (Nat×Nat×Tab):=[
  (152,0,tClE c),(154,0,tClK p),(155,0,tClM),(165,1,tFts p c),(111,1,tFts p c),
  (109,2,tEnc),(78,2,tDec),(55,2,tEnc),(138,2,tDec),
  (116,2,tPiv),(117,2,tMsg),(59,0,tEnt),(60,0,tHld p c),(62,0,tFit c)]
/-- Where the key goes,whether Root has a message for it,whether the leaf has it,whether it is there behind the message. -/
def tKey:Tab:=[([.tok .i64 40],.agg keyW)]
def tKid (p j:Nat):Tab:=[([.nam p,.agg keyW],iW j)]
def tFnM (met:Bool):Tab:=[([.nam 8,.agg keyW],.tup [.agg msgW,.bool met])]
def tFnE (j:Nat) (f:Bool):Tab:=[([.nam (20+j),.agg keyW],.tup [.agg (valW 200),.bool f])]
def tApp (f g:Bool):Tab:=[([.agg (valW 200),.bool f,.agg msgW],.tup [.agg (valW 220),.bool g])]
def tAwk:Tab:=[([],.bool true)]
def tabW (p j:Nat) (met f g:Bool):List (Nat×Nat×Tab):=[
  (5,0,tKey),(86,0,tKid p j),(26,0,tKid p j),(87,0,tFnM met),(42,0,tFnM met),(89,0,tFnE j f),(41,0,tFnE j f),(18,0,tAwk)]++if met then [(90,0,tApp f g),(43,0,tApp f g)] else []
end Go.Proofs.YtajjhaidpagflaaGreat
