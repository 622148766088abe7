/-
Values for tables of what runs know.
No conditions.
-/
import Derived.Test.YtbmibhjjogobhaaGreatQEngZ
set_option linter.unusedSectionVars false
set_option linter.unusedSimpArgs false
set_option linter.unusedVariables false
namespace Go.Proofs.YtbmibhjjogobhaaGreat
open Go Go.Eng
def iW (n:Nat):HV:=.int .i64 (.ofNat n)
def bV (n:Nat):HV:=.int .u8 (.ofNat n)
def tW:HV:=.bool true
def fW:HV:=.bool false
def pW (a b c d:Nat):HV:=.ptr a b c d
def rpW {α:Type} (n:Nat) (x:α) (l:List α):List α:=Nat.rec (motive:=fun _=>List α) l (fun _ ih=>x::ih) n
def tkL (b n:Nat) (l:List HV):List HV:=Nat.rec (motive:=fun _=>Nat→List HV) (fun _=>l) (fun _ ih b=>.tok .u8 b::ih (b+1)) n b
def tkR (b n:Nat):List (List HV):=Nat.rec (motive:=fun _=>Nat→List (List HV)) (fun _=>[]) (fun _ ih b=>[.tok .u8 b]::ih (b+1)) n b
abbrev Tab:=List (List HV×HV)
def uo:HV:=.imm false []
def YV:List (List HV):=[[iW 16]]
def zQ6 (n:Nat):List HV:=[iW n]
def zAP (c:Nat):List (List HV):=(List.range (c+1)).map fun i=>zQ6 (i+1)
def KC (i:Nat):HV:=.agg [.bool true,.nam i,uo,uo,uo]
def ZY (p c:Nat) (M:HV):HV:=.agg [.bool false,uo,.imm false (zAP c),.nam p,M]
def Qw:HV:=.agg [.bool true,uo,uo,uo,uo]
/-- The bytes of the leaf that has nothing. -/
def zW:List (List HV):=[bV 1]::[bV 0]::[bV 0]::[bV 0]::[bV 147]::[bV 244]::[bV 165]::[bV 195]::rpW 248 [bV 0] []
def wW (c:Nat) (f:Nat→List HV×HV):Tab:=(List.range (c+1)).map f
end Go.Proofs.YtbmibhjjogobhaaGreat
namespace Go.Proofs.YtbmibhjjogobhaaGreat
open Go Go.Eng
def zJu:Tab:=[([.nam 2,iW 3],.nam 5),([.imm false YV,iW 3],.nam 6)]
def zK0:Tab:=[([.nam 4,iW 205],.nam 8),([uo,iW 205],uo)]
def zIC:Tab:=[([.nam 3,iW 700],.nam 7)]
def zKx (p c:Nat):Tab:=wW c fun i=>([.nam 7,.nam p,iW i],.nam (10+i))
def zIO (c:Nat):Tab:=wW c fun i=>([.nam (10+i)],.nam (20+i))
def GP (p c:Nat):Tab:=([ZY p c (.nam 8)],.bool true)::wW c fun i=>([KC (20+i)],.bool true)
def Jo (p c:Nat):Tab:=([Qw],.tup [.imm false zW,iW 0])::([ZY p c (.nam 8)],.tup [.imm false (tkR 3000 256),iW 0])::wW c fun i=>([KC (20+i)],.tup [.imm false (tkR (1000+256*i) 256),iW 0])
def Gq (p c:Nat):Tab:=[([.imm false zW],.tup [Qw,iW 0]),([.imm false (tkR 3000 256)],.tup [ZY p c (.nam 8),iW 0])]
def zLB (c:Nat):Tab:=wW c fun i=>([.nam (20+i)],.nam (20+i))
def zR2 (p:Nat):Tab:=[([.nam p],.nam p)]
def zMx:Tab:=[([.nam 8],.nam 8)]
/-- How many bytes Root has. -/
def Jc (p c:Nat):Tab:=[([ZY p c (.nam 8)],.tok .i64 41)]
def zI1:Tab:=[([],.bool true)]
def qB (p c:Nat):List (Nat×Nat×Tab):=[
 (178,0,zLB c),(180,0,zR2 p),(181,0,zMx),(124,1,GP p c),(71,1,GP p c),
 (69,2,Jo p c),(107,2,Gq p c),(36,2,Jo p c),(52,2,Gq p c),
 (76,2,zJu),(77,2,zK0),(40,0,zIC),(41,0,zKx p c),(43,0,zIO c),
 (55,2,Jc p c),(8,2,Jc p c),(9,0,zI1)]
end Go.Proofs.YtbmibhjjogobhaaGreat
