/- Part 6 of what the law LawRingMakes needs. No condition but those each theorem states. -/
import Derived.Test.YtlocplkjokoknaaGreatPkLawRingMakesE
set_option linter.unusedVariables false
set_option linter.unusedSimpArgs false
set_option maxHeartbeats 32000000
set_option maxRecDepth 100000
open List renaming getD_eq_getElem?_getD → kQa, replicate → kQc, getElem?_toArray → kQd, getElem?_cons_succ → kQe, toList_toArray → kQf, getElem?_cons_zero → kQg, getElem?_eq_getElem → kQi, length_append → kQj, filterMap_cons → kQl, filterMap_nil → kQm, take_of_length_le → kQn, length_take → kQp, getElem?_append_right → kQq, map_toArray → kQs, drop_of_length_le → kQt, mem_of_getElem? → kQu, length_drop → kQv, map_cons → kQw
open Nat renaming lt_of_lt_of_le → kQb, le_refl → kQh, le_trans → kQk, eq_of_beq_eq_true → kQr
open Option renaming map_some → kQo
namespace Go.Proofs.YtlocplkjokoknaaGreat
open Go.RowKit
attribute [local go_sem ↓] Go.wp_at_zero Go.wp_at_succ
def RowN (z:Mem):List Value:=[.int .i64 z.n,.string (strB z.k),.bool z.o]
def EM (l:List Mem):List Value:=l.flatMap RowN
theorem EM_append (L L':List Mem):EM (L++L')=EM L++EM L':=by simp [EM]
theorem EM_get (L:List Mem) (j i:Nat) (hi:i<3) (p:Mem) (hp:L[j]?=some p):(EM L)[j*3+i]?=(RowN p)[i]?:=by
 induction L generalizing j with
 | nil=>simp at hp
 | cons q L ih=>
  have e:EM (q::L)=RowN q++EM L:=by simp [EM]
  rw[e]
  cases j with
  | zero=>
   simp at hp
   subst hp
   rw[Nat.zero_mul,Nat.zero_add,List.getElem?_append_left (by simpa [RowN]using hi)]
  | succ j=>
   rw[kQq (by simp [RowN];omega),show(j+1)*3+i-(RowN q).length=j*3+i by simp [RowN];omega]
   exact ih j (by simpa using hp)
theorem qJ9 {W:World} {A:Option Addr} {L:List Mem} (h:RdV W A (EM L)) {j:Nat} {p:Mem} (hp:L[j]?=some p):∃b o,A=some ⟨b,o,none⟩∧∀i v,(RowN p)[i]?=some v→W.cell? ⟨b,o+j*3+i,none⟩=some v:=by
 obtain⟨b,o,e,_⟩:=h (j*3+0) (.int .i64 p.n) (by rw [EM_get L j 0 (by omega) p hp];rfl)
 refine⟨b,o,e,fun i v hi=>?_⟩
 have hi4:i<3:=by have:=(List.getElem?_eq_some_iff.1 hi).1;simpa [RowN]using this
 obtain⟨b',o',e',hc⟩:=h (j*3+i) v (by rw [EM_get L j i hi4 p hp];exact hi)
 rw[e]at e'
 cases e'
 rw[Nat.add_assoc]
 exact hc
theorem qQU:(Tryz.prog.info? 73).map (·.size)=some 3:=by kernel_rfl
theorem qQL {W W':World} {a:Addr} {v:Value} (h:W.cell? a=some v) (hb:Below W.heap.size W W'):W'.cell? a=some v:=(qQJ hb).cell h (fun er=>by cases er)
theorem qKM {o:Oper} {a:Act} (t t2:TypeId) (x y:Operand) (ho:o.op=.binOp .eql t x y t2) (k:IntKind) (u v:Int) (b:Bool) (h:decide (u=v)=b) (hx:a.eval x=.int k u) (hy:a.eval y=.int k v) (W:World):(execOp a.eval o).run Tryz.prog W=.ok (.value (.bool b)) W:=by
 unfold execOp
 simp only [ho,hx,hy]
 subst h
 go_simp
 by_cases h:u=v<;>simp [h]
theorem qVL (w:World) (A:Option Addr) (n c:Nat) (zs:List Mem) (hn:zs.length=n) (R:RdV w A (EM zs)) (hz:n≤1000) :
  Calls Tryz.prog 11 #[.slice A n c] w fun e w'=>e=.returned (.int .i64 (chk zs))∧Below w.heap.size w w':=by
 have HR:=Lh R
 have Q1:=Lh hn
 have b0:(n:Int)≤1000:=by omega
 clear R hn hz
 go_enter Tryz.func11,Tryz.ntmps11
 go_wp2_with fail
 go_loopw [3,4] (fun s i wr=>∃j:Nat,j≤n∧s=.int .i64 (((zs.take j).countP (·.o):Nat):Int)∧i=.int .i64 (j:Int)∧qWs zs 0=qWs zs j∧Below w.heap.size w wr) (fun _ i _=>n-(intOf i).toNat)
 case atStart=>exact⟨0,Nat.zero_le _,rfl,rfl,rfl,Below.refl _ _⟩
 case round=>
  obtain⟨j,hj,rfl,rfl,hno,hb⟩:=hrel
  have J:=Lh hj
  have NO:=Lh hno
  have BW:=Lh hb
  obtain⟨ow,how⟩:∃ow,ow=(zs.take j).countP (·.o):=⟨_,rfl⟩
  have OWB:=Lh (show ow≤j by rw [how];exact kQk List.countP_le_length (by simp;omega))
  have ob:(ow:Int)≤1000:=by have:=OWB.out;omega
  rw[←how]
  have OE:=Lh how
  clear hj hno hb how
  obtain⟨wp,rfl⟩:∃wp:World,wp=wr:=⟨_,rfl⟩
  by_cases hlt:j<n
  ·have hD:decide ((j:Int)<(n:Int))=true:=by simp;omega
   have JQ:=Lh hlt
   obtain⟨z,hz⟩:∃z,zs[j]?=some z:=⟨_,kQi (by rw [Q1.out];exact hlt)⟩
   obtain⟨b,o,hA,hc⟩:=qJ9 HR.out hz
   have AE:=Lh hA
   have ST:=Lh (qKY hz)
   have CS:=Lh (show(zs.take (j+1)).countP (·.o)=ow+if z.o then 1 else 0 by
    have h2:zs[j]'(by rw [Q1.out];exact hlt)=z:=by rw [kQi (by rw [Q1.out];exact hlt)]at hz;exact Option.some.inj hz
    rw[List.take_succ_eq_append_getElem (by rw [Q1.out];exact hlt),List.countP_append,←OE.out,h2]
    simp [List.countP_cons])
   have C0:=Lh (qQL (hc 0 _ rfl) BW.out)
   have C1:=Lh (qQL (hc 1 _ rfl) BW.out)
   have C2:=Lh (qQL (hc 2 _ rfl) BW.out)
   have ZE:=Lh hz
   clear hz hA hc hlt
   have BAD:=Lh (fun(h:okAt zs j z=false)=>show chk zs=2 by rw [chk,qZd,NO.out,ST.out,h];simp)
   by_cases h1:z.n<1
   ·have hE:decide (z.n<1)=true:=by simpa using h1
    have CB:=Lh (BAD.out (by simp [okAt];omega))
    clear h1
    go_wp2_with (first
     | (refine qQa rfl (qQr 50 (.tmp 12) (.tmp 13) rfl 73 Tryz.underlying50 3 qQU b o n c j JQ.out .i64 _ rfl (by rw [←AE.out];rfl) rfl _) ?_)
     | (refine qQa rfl (qQq 3 (.tmp 15) rfl _ Tryz.underlying3 rfl rfl C0.out) ?_))
    go_ret
    exact⟨by rw [CB.out];rfl,BW.out⟩
   ·have hE:decide (z.n<1)=false:=by simpa using h1
    by_cases h2:255<z.n
    ·have hF:decide (z.n>255)=true:=by simpa using h2
     have CB:=Lh (BAD.out (by simp [okAt];omega))
     clear h1 h2
     go_wp2_with (first
      | (refine qQa rfl (qQr 50 (.tmp 12) (.tmp 13) rfl 73 Tryz.underlying50 3 qQU b o n c j JQ.out .i64 _ rfl (by rw [←AE.out];rfl) rfl _) ?_)
      | (refine qQa rfl (qQq 3 (.tmp 15) rfl _ Tryz.underlying3 rfl rfl C0.out) ?_)
      | (refine qQl (by rfl) (qQr 50 (.tmp 19) (.tmp 20) rfl 73 Tryz.underlying50 3 qQU b o n c j JQ.out .i64 _ rfl (by rw [←AE.out];rfl) rfl _) ?_)
      | (refine qQl (by rfl) (qQq 3 (.tmp 22) rfl _ Tryz.underlying3 rfl rfl C0.out) ?_))
     go_ret
     exact⟨by rw [CB.out];rfl,BW.out⟩
    ·have hF:decide (z.n>255)=false:=by simpa using h2
     have NB:=Lh (show 1≤z.n∧z.n≤255 by omega)
     clear h1 h2
     go_wp2_with (first
      | (refine qQa rfl (qQr 50 (.tmp 12) (.tmp 13) rfl 73 Tryz.underlying50 3 qQU b o n c j JQ.out .i64 _ rfl (by rw [←AE.out];rfl) rfl _) ?_)
      | (refine qQa rfl (qQq 3 (.tmp 15) rfl _ Tryz.underlying3 rfl rfl C0.out) ?_)
      | (refine qQl (by rfl) (qQr 50 (.tmp 19) (.tmp 20) rfl 73 Tryz.underlying50 3 qQU b o n c j JQ.out .i64 _ rfl (by rw [←AE.out];rfl) rfl _) ?_)
      | (refine qQl (by rfl) (qQq 3 (.tmp 22) rfl _ Tryz.underlying3 rfl rfl C0.out) ?_))
     go_loopw [5] (fun i wr=>∃k:Nat,k≤j∧i=.int .i64 (k:Int)∧(zs.take k).any (qJs z)=false∧Below wp.heap.size wp wr) (fun i _=>j-(intOf i).toNat)
     case atStart=>exact⟨0,Nat.zero_le _,rfl,by simp,Below.refl _ _⟩
     case round=>
      obtain⟨k,hk,rfl,hany,hbp⟩:=hrel
      obtain⟨wq,rfl⟩:∃wq:World,wq=wr:=⟨_,rfl⟩
      have KJ:=Lh hk
      have ANY:=Lh hany
      have BP:=Lh hbp
      clear hk hany hbp hE hF
      have jb:(j:Int)≤1000:=by have:=JQ.out;omega
      by_cases hkl:k<j
      ·have hD:decide ((k:Int)<(j:Int))=true:=by simp;omega
       have KLT:=Lh hkl
       have KQ:=Lh (Nat.lt_trans hkl JQ.out)
       obtain⟨x,hx⟩:∃x,zs[k]?=some x:=⟨_,kQi (by rw [Q1.out];exact KQ.out)⟩
       obtain⟨b',o',hA',hc'⟩:=qJ9 HR.out hx
       obtain⟨rfl,rfl⟩:b'=b∧o'=o:=by rw [AE.out]at hA';cases hA';exact⟨rfl,rfl⟩
       have D0:=Lh (qQL (qQL (hc' 0 _ rfl) BW.out) BP.out)
       have D1:=Lh (qQL (qQL (hc' 1 _ rfl) BW.out) BP.out)
       have E0:=Lh (qQL C0.out BP.out)
       have E1:=Lh (qQL C1.out BP.out)
       have AN:=Lh (show(zs.take (k+1)).any (qJs z)=qJs z x by
        have h2:zs[k]'(by rw [Q1.out];exact KQ.out)=x:=by rw [kQi (by rw [Q1.out];exact KQ.out)]at hx;exact Option.some.inj hx
        rw[List.take_succ_eq_append_getElem (by rw [Q1.out];exact KQ.out),List.any_append,ANY.out,h2];simp)
       have YES:=Lh (fun(h:qJs z x=true)=>BAD.out (by
        have h3:(zs.take j).any (qJs z)=true:=by
         rw[List.any_eq_true]
         exact⟨x,kQu (i:=k) (by rw [List.getElem?_take_of_lt KLT.out];exact hx),h⟩
        rw[okAt,h3];simp))
       have Z:=Lh (show Below wq.heap.size wq wq.drew from(Below.refl _ _).drew)
       clear hx hc' hA' hkl
       by_cases h3:x.n=z.n
       ·have hE:decide (x.n=z.n)=true:=by simpa using h3
        have CB:=Lh (YES.out (by rw [qJs,hE];rfl))
        clear h3
        go_upto_region 10 with fail
        refine qQu (fun W=>Below wq.heap.size wq W) [(true,0),(true,1),(true,2),(true,3),(true,4),(true,5),(true,6),(true,7),(true,8),(true,9),(true,10),(true,11),(true,12),(true,13),(true,14),(true,15),(true,16),(true,17),(true,18),(true,19),(true,20),(true,21),(true,22),(true,23)] (by kernel_rfl) (by kernel_rfl) (fun _ _ d _ _ h=>by cases d<;>exact h) ?_
        simp only [kQl,kQm,kQd,kQg,kQe,kQo]
        refine qQc (by rfl) Z.out (fun W hW=>by go_simp;rfl) ?_
        simp only [Act.put,pq1,pq2,pq3]
        refine qQc (by rfl) Z.out (fun W hW=>by go_simp;rfl) ?_
        simp only [Act.put,pq1,pq2,pq3]
        refine qQc (by rfl) Z.out (fun W hW=>qQr 50 (.tmp 31) (.tmp 32) rfl 73 Tryz.underlying50 3 qQU b' o' n c k KQ.out .i64 _ rfl (by rw [←AE.out];rfl) rfl W) ?_
        simp only [Act.put,pq1,pq2,pq3]
        refine qQc (by rfl) Z.out (fun W hW=>by go_simp;rfl) ?_
        simp only [Act.put,pq1,pq2,pq3]
        refine qQc (by rfl) Z.out (fun W hW=>qQq 3 (.tmp 34) rfl _ Tryz.underlying3 rfl rfl (qQL D0.out hW)) ?_
        simp only [Act.put,pq1,pq2,pq3]
        refine qQc (by rfl) Z.out (fun W hW=>by go_simp;rfl) ?_
        simp only [Act.put,pq1,pq2,pq3]
        refine qQc (by rfl) Z.out (fun W hW=>by go_simp;rfl) ?_
        simp only [Act.put,pq1,pq2,pq3]
        refine qQc (by rfl) Z.out (fun W hW=>qQr 50 (.tmp 36) (.tmp 37) rfl 73 Tryz.underlying50 3 qQU b' o' n c j JQ.out .i64 _ rfl (by rw [←AE.out];rfl) rfl W) ?_
        simp only [Act.put,pq1,pq2,pq3]
        refine qQc (by rfl) Z.out (fun W hW=>by go_simp;rfl) ?_
        simp only [Act.put,pq1,pq2,pq3]
        refine qQc (by rfl) Z.out (fun W hW=>qQq 3 (.tmp 39) rfl _ Tryz.underlying3 rfl rfl (qQL E0.out hW)) ?_
        simp only [Act.put,pq1,pq2,pq3]
        refine qQc (by rfl) Z.out (fun W hW=>qKM 3 _ (.tmp 35) (.tmp 40) rfl .i64 x.n z.n _ hE rfl rfl W) ?_
        simp only [Act.put,pq1,pq2,pq3]
        refine qQc (by rfl) Z.out (fun W hW=>by go_simp;rfl) ?_
        simp only [Act.put,pq1,pq2,pq3]
        refine qQ2 (by rfl) Z.out ?_
        simp only [Act.put,pq1,pq2,pq3]
        refine qQ2 (by rfl) Z.out ?_
        simp only [Act.put,pq1,pq2,pq3]
        refine qQ2 (by rfl) Z.out ?_
        simp only [Act.put,pq1,pq2,pq3]
        refine qQ2 (by rfl) Z.out ?_
        simp only [Act.put,pq1,pq2,pq3]
        refine qQ2 (by rfl) Z.out ?_
        simp only [Act.put,pq1,pq2,pq3]
        refine qQ2 (by rfl) Z.out ?_
        simp only [Act.put,pq1,pq2,pq3]
        refine qQ2 (by rfl) Z.out ?_
        simp only [Act.put,pq1,pq2,pq3]
        refine qQ2 (by rfl) Z.out ?_
        simp only [Act.put,pq1,pq2,pq3]
        refine qQ2 (by rfl) Z.out ?_
        simp only [Act.put,pq1,pq2,pq3]
        refine qQ2 (by rfl) Z.out ?_
        simp only [Act.put,pq1,pq2,pq3]
        refine qQ2 (by rfl) Z.out ?_
        simp only [Act.put,pq1,pq2,pq3]
        refine qQc (by rfl) Z.out (fun W hW=>by go_simp;rfl) ?_
        simp only [Act.put,pq1,pq2,pq3]
        refine qQG ?_
        go_wp2_with fail
        go_ret
        exact⟨by rw [CB.out];rfl,BW.out.trans ((BP.out.trans (Z.out.mono BP.out.size)).mono BW.out.size)⟩
       ·have hE:decide (x.n=z.n)=false:=by simpa using h3
        clear h3
        by_cases h4:x.k=z.k
        ·have hK:decide (x.k=z.k)=true:=by simpa using h4
         have CB:=Lh (YES.out (by rw [qJs,hE,hK];rfl))
         clear h4
         go_upto_region 10 with fail
         refine qQu (fun W=>Below wq.heap.size wq W) [(true,0),(true,1),(true,2),(true,3),(true,4),(true,5),(true,6),(true,7),(true,8),(true,9),(true,10),(true,11),(true,12),(true,13),(true,14),(true,15),(true,16),(true,17),(true,18),(true,19),(true,20),(true,21),(true,22),(true,23)] (by kernel_rfl) (by kernel_rfl) (fun _ _ d _ _ h=>by cases d<;>exact h) ?_
         simp only [kQl,kQm,kQd,kQg,kQe,kQo]
         refine qQc (by rfl) Z.out (fun W hW=>by go_simp;rfl) ?_
         simp only [Act.put,pq1,pq2,pq3]
         refine qQc (by rfl) Z.out (fun W hW=>by go_simp;rfl) ?_
         simp only [Act.put,pq1,pq2,pq3]
         refine qQc (by rfl) Z.out (fun W hW=>qQr 50 (.tmp 31) (.tmp 32) rfl 73 Tryz.underlying50 3 qQU b' o' n c k KQ.out .i64 _ rfl (by rw [←AE.out];rfl) rfl W) ?_
         simp only [Act.put,pq1,pq2,pq3]
         refine qQc (by rfl) Z.out (fun W hW=>by go_simp;rfl) ?_
         simp only [Act.put,pq1,pq2,pq3]
         refine qQc (by rfl) Z.out (fun W hW=>qQq 3 (.tmp 34) rfl _ Tryz.underlying3 rfl rfl (qQL D0.out hW)) ?_
         simp only [Act.put,pq1,pq2,pq3]
         refine qQc (by rfl) Z.out (fun W hW=>by go_simp;rfl) ?_
         simp only [Act.put,pq1,pq2,pq3]
         refine qQc (by rfl) Z.out (fun W hW=>by go_simp;rfl) ?_
         simp only [Act.put,pq1,pq2,pq3]
         refine qQc (by rfl) Z.out (fun W hW=>qQr 50 (.tmp 36) (.tmp 37) rfl 73 Tryz.underlying50 3 qQU b' o' n c j JQ.out .i64 _ rfl (by rw [←AE.out];rfl) rfl W) ?_
         simp only [Act.put,pq1,pq2,pq3]
         refine qQc (by rfl) Z.out (fun W hW=>by go_simp;rfl) ?_
         simp only [Act.put,pq1,pq2,pq3]
         refine qQc (by rfl) Z.out (fun W hW=>qQq 3 (.tmp 39) rfl _ Tryz.underlying3 rfl rfl (qQL E0.out hW)) ?_
         simp only [Act.put,pq1,pq2,pq3]
         refine qQc (by rfl) Z.out (fun W hW=>qKM 3 _ (.tmp 35) (.tmp 40) rfl .i64 x.n z.n _ hE rfl rfl W) ?_
         simp only [Act.put,pq1,pq2,pq3]
         refine qQc (by rfl) Z.out (fun W hW=>by go_simp;rfl) ?_
         simp only [Act.put,pq1,pq2,pq3]
         refine qQc (by rfl) Z.out (fun W hW=>by go_simp;rfl) ?_
         simp only [Act.put,pq1,pq2,pq3]
         refine qQc (by rfl) Z.out (fun W hW=>by go_simp;rfl) ?_
         simp only [Act.put,pq1,pq2,pq3]
         refine qQc (by rfl) Z.out (fun W hW=>qQr 50 (.tmp 43) (.tmp 44) rfl 73 Tryz.underlying50 3 qQU b' o' n c k KQ.out .i64 _ rfl (by rw [←AE.out];rfl) rfl W) ?_
         simp only [Act.put,pq1,pq2,pq3]
         refine qQc (by rfl) Z.out (fun W hW=>by go_simp;rfl) ?_
         simp only [Act.put,pq1,pq2,pq3]
         refine qQc (by rfl) Z.out (fun W hW=>qQq 9 (.tmp 46) rfl _ Tryz.underlying9 rfl rfl (qQL D1.out hW)) ?_
         simp only [Act.put,pq1,pq2,pq3]
         refine qQc (by rfl) Z.out (fun W hW=>by go_simp;rfl) ?_
         simp only [Act.put,pq1,pq2,pq3]
         refine qQc (by rfl) Z.out (fun W hW=>by go_simp;rfl) ?_
         simp only [Act.put,pq1,pq2,pq3]
         refine qQc (by rfl) Z.out (fun W hW=>qQr 50 (.tmp 48) (.tmp 49) rfl 73 Tryz.underlying50 3 qQU b' o' n c j JQ.out .i64 _ rfl (by rw [←AE.out];rfl) rfl W) ?_
         simp only [Act.put,pq1,pq2,pq3]
         refine qQc (by rfl) Z.out (fun W hW=>by go_simp;rfl) ?_
         simp only [Act.put,pq1,pq2,pq3]
         refine qQc (by rfl) Z.out (fun W hW=>qQq 9 (.tmp 51) rfl _ Tryz.underlying9 rfl rfl (qQL E1.out hW)) ?_
         simp only [Act.put,pq1,pq2,pq3]
         refine qQc (by rfl) Z.out (fun W hW=>(qXC 9 _ (.tmp 47) (.tmp 52) rfl x.k z.k rfl rfl W).trans (by rw [hK])) ?_
         simp only [Act.put,pq1,pq2,pq3]
         refine qQc (by rfl) Z.out (fun W hW=>by go_simp;rfl) ?_
         simp only [Act.put,pq1,pq2,pq3]
         refine qQG ?_
         go_wp2_with fail
         go_ret
         exact⟨by rw [CB.out];rfl,BW.out.trans ((BP.out.trans (Z.out.mono BP.out.size)).mono BW.out.size)⟩
        ·have hK:decide (x.k=z.k)=false:=by simpa using h4
         have AN:=Lh (show(zs.take (k+1)).any (qJs z)=false by rw [AN.out,qJs,hE,hK];rfl)
         clear h4
         go_upto_region 10 with fail
         refine qQu (fun W=>Below wq.heap.size wq W) [(true,0),(true,1),(true,2),(true,3),(true,4),(true,5),(true,6),(true,7),(true,8),(true,9),(true,10),(true,11),(true,12),(true,13),(true,14),(true,15),(true,16),(true,17),(true,18),(true,19),(true,20),(true,21),(true,22),(true,23)] (by kernel_rfl) (by kernel_rfl) (fun _ _ d _ _ h=>by cases d<;>exact h) ?_
         simp only [kQl,kQm,kQd,kQg,kQe,kQo]
         refine qQc (by rfl) Z.out (fun W hW=>by go_simp;rfl) ?_
         simp only [Act.put,pq1,pq2,pq3]
         refine qQc (by rfl) Z.out (fun W hW=>by go_simp;rfl) ?_
         simp only [Act.put,pq1,pq2,pq3]
         refine qQc (by rfl) Z.out (fun W hW=>qQr 50 (.tmp 31) (.tmp 32) rfl 73 Tryz.underlying50 3 qQU b' o' n c k KQ.out .i64 _ rfl (by rw [←AE.out];rfl) rfl W) ?_
         simp only [Act.put,pq1,pq2,pq3]
         refine qQc (by rfl) Z.out (fun W hW=>by go_simp;rfl) ?_
         simp only [Act.put,pq1,pq2,pq3]
         refine qQc (by rfl) Z.out (fun W hW=>qQq 3 (.tmp 34) rfl _ Tryz.underlying3 rfl rfl (qQL D0.out hW)) ?_
         simp only [Act.put,pq1,pq2,pq3]
         refine qQc (by rfl) Z.out (fun W hW=>by go_simp;rfl) ?_
         simp only [Act.put,pq1,pq2,pq3]
         refine qQc (by rfl) Z.out (fun W hW=>by go_simp;rfl) ?_
         simp only [Act.put,pq1,pq2,pq3]
         refine qQc (by rfl) Z.out (fun W hW=>qQr 50 (.tmp 36) (.tmp 37) rfl 73 Tryz.underlying50 3 qQU b' o' n c j JQ.out .i64 _ rfl (by rw [←AE.out];rfl) rfl W) ?_
         simp only [Act.put,pq1,pq2,pq3]
         refine qQc (by rfl) Z.out (fun W hW=>by go_simp;rfl) ?_
         simp only [Act.put,pq1,pq2,pq3]
         refine qQc (by rfl) Z.out (fun W hW=>qQq 3 (.tmp 39) rfl _ Tryz.underlying3 rfl rfl (qQL E0.out hW)) ?_
         simp only [Act.put,pq1,pq2,pq3]
         refine qQc (by rfl) Z.out (fun W hW=>qKM 3 _ (.tmp 35) (.tmp 40) rfl .i64 x.n z.n _ hE rfl rfl W) ?_
         simp only [Act.put,pq1,pq2,pq3]
         refine qQc (by rfl) Z.out (fun W hW=>by go_simp;rfl) ?_
         simp only [Act.put,pq1,pq2,pq3]
         refine qQc (by rfl) Z.out (fun W hW=>by go_simp;rfl) ?_
         simp only [Act.put,pq1,pq2,pq3]
         refine qQc (by rfl) Z.out (fun W hW=>by go_simp;rfl) ?_
         simp only [Act.put,pq1,pq2,pq3]
         refine qQc (by rfl) Z.out (fun W hW=>qQr 50 (.tmp 43) (.tmp 44) rfl 73 Tryz.underlying50 3 qQU b' o' n c k KQ.out .i64 _ rfl (by rw [←AE.out];rfl) rfl W) ?_
         simp only [Act.put,pq1,pq2,pq3]
         refine qQc (by rfl) Z.out (fun W hW=>by go_simp;rfl) ?_
         simp only [Act.put,pq1,pq2,pq3]
         refine qQc (by rfl) Z.out (fun W hW=>qQq 9 (.tmp 46) rfl _ Tryz.underlying9 rfl rfl (qQL D1.out hW)) ?_
         simp only [Act.put,pq1,pq2,pq3]
         refine qQc (by rfl) Z.out (fun W hW=>by go_simp;rfl) ?_
         simp only [Act.put,pq1,pq2,pq3]
         refine qQc (by rfl) Z.out (fun W hW=>by go_simp;rfl) ?_
         simp only [Act.put,pq1,pq2,pq3]
         refine qQc (by rfl) Z.out (fun W hW=>qQr 50 (.tmp 48) (.tmp 49) rfl 73 Tryz.underlying50 3 qQU b' o' n c j JQ.out .i64 _ rfl (by rw [←AE.out];rfl) rfl W) ?_
         simp only [Act.put,pq1,pq2,pq3]
         refine qQc (by rfl) Z.out (fun W hW=>by go_simp;rfl) ?_
         simp only [Act.put,pq1,pq2,pq3]
         refine qQc (by rfl) Z.out (fun W hW=>qQq 9 (.tmp 51) rfl _ Tryz.underlying9 rfl rfl (qQL E1.out hW)) ?_
         simp only [Act.put,pq1,pq2,pq3]
         refine qQc (by rfl) Z.out (fun W hW=>(qXC 9 _ (.tmp 47) (.tmp 52) rfl x.k z.k rfl rfl W).trans (by rw [hK])) ?_
         simp only [Act.put,pq1,pq2,pq3]
         refine qQc (by rfl) Z.out (fun W hW=>by go_simp;rfl) ?_
         simp only [Act.put,pq1,pq2,pq3]
         refine qQG ?_
         have kb:(k:Int)≤1000:=by have:=KQ.out;omega
         go_wp2_with fail
         go_roundw
         case rel=>exact⟨k+1,KLT.out,by go_num,AN.out,BP.out.trans (Z.out.mono BP.out.size)⟩
         case measure=>have:=KLT.out;simp [intOf];omega
      ·have hD:decide ((k:Int)<(j:Int))=false:=by simp;omega
       have hkj:k=j:=by have:=KJ.out;omega
       have NX:=Lh (show qWs zs 0=qWs zs (j+1) by
        have h3:=ANY.out
        rw[hkj]at h3
        rw[NO.out,ST.out,okAt,h3,decide_eq_true NB.out.1,decide_eq_true NB.out.2];rfl)
       have E2:=Lh (qQL C2.out BP.out)
       have BX:=Lh (BW.out.trans (BP.out.mono BW.out.size))
       clear hkj
       cases hzo:z.o with
       | true=>
        have E2:=Lh (show wq.cell? ⟨b,o+j*3+2,none⟩=some (.bool true) by rw [E2.out,hzo])
        have CS:=Lh (show(zs.take (j+1)).countP (·.o)=ow+1 by rw [CS.out,hzo];rfl)
        clear hzo
        go_wp2_with (first
         | (refine qQa rfl (qQr 50 (.tmp 55) (.tmp 56) rfl 73 Tryz.underlying50 3 qQU b o n c j JQ.out .i64 _ rfl (by rw [←AE.out];rfl) rfl _) ?_)
         | (refine qQa rfl (qQq 4 (.tmp 58) rfl _ Tryz.underlying4 rfl rfl E2.out) ?_))
        go_roundw
        case rel=>exact⟨j+1,JQ.out,by rw [CS.out];go_num,by go_num,NX.out,BX.out⟩
        case measure=>have:=JQ.out;simp [intOf];omega
       | false=>
        have E2:=Lh (show wq.cell? ⟨b,o+j*3+2,none⟩=some (.bool false) by rw [E2.out,hzo])
        have CS:=Lh (show(zs.take (j+1)).countP (·.o)=ow by rw [CS.out,hzo];rfl)
        clear hzo
        go_wp2_with (first
         | (refine qQa rfl (qQr 50 (.tmp 55) (.tmp 56) rfl 73 Tryz.underlying50 3 qQU b o n c j JQ.out .i64 _ rfl (by rw [←AE.out];rfl) rfl _) ?_)
         | (refine qQa rfl (qQq 4 (.tmp 58) rfl _ Tryz.underlying4 rfl rfl E2.out) ?_))
        go_roundw
        case rel=>exact⟨j+1,JQ.out,by rw [CS.out],by go_num,NX.out,BX.out⟩
        case measure=>have:=JQ.out;simp [intOf];omega
  ·have hD:decide ((j:Int)<(n:Int))=false:=by simp;omega
   have JE:=Lh (show j=zs.length by have:=J.out;rw [Q1.out];omega)
   have CE:=Lh (show qZd zs=(decide (n≤8)&&decide (ow≠0)) by
    have h1:decide (ow≠0)=zs.any (·.o):=by
     have h2:=OE.out
     rw[JE.out,List.take_length]at h2
     rw[h2,Bool.eq_iff_iff,decide_eq_true_eq,List.any_eq_true,←Nat.pos_iff_ne_zero,List.countP_pos_iff]
    rw[qZd,NO.out,JE.out,qYG,Bool.and_true,h1,Q1.out])
   have O0:=Lh (show n<1→ow=0 by have:=OWB.out;have:=J.out;omega)
   by_cases h1:n<1
   ·have hE:decide ((n:Int)<1)=true:=by simp;omega
    have CH:=Lh (show chk zs=2 by rw [chk,CE.out,O0.out h1];simp)
    clear h1
    go_wp2_with fail
    go_ret
    exact⟨by rw [CH.out];rfl,BW.out⟩
   ·have hE:decide ((n:Int)<1)=false:=by simp;omega
    by_cases h2:8<n
    ·have hF:decide ((n:Int)>8)=true:=by simp;omega
     have CH:=Lh (show chk zs=2 by rw [chk,CE.out,decide_eq_false (by omega)];rfl)
     clear h1 h2
     go_wp2_with fail
     go_ret
     exact⟨by rw [CH.out];rfl,BW.out⟩
    ·have hF:decide ((n:Int)>8)=false:=by simp;omega
     by_cases h3:ow=0
     ·have hG:((ow:Int)==0)=true:=by simp;omega
      have CH:=Lh (show chk zs=2 by rw [chk,CE.out,h3];simp)
      clear h1 h2 h3
      go_wp2_with fail
      go_ret
      exact⟨by rw [CH.out];rfl,BW.out⟩
     ·have hG:((ow:Int)==0)=false:=by simp;omega
      have CH:=Lh (show chk zs=0 by rw [chk,CE.out,decide_eq_true h3,decide_eq_true (by omega)];rfl)
      clear h1 h2 h3
      go_wp2_with fail
      go_ret
      exact⟨by rw [CH.out];rfl,BW.out⟩
theorem rdir_any (w:World) (A:Option Addr) (n c:Nat) (zs:List Mem) (hn:zs.length=n) (R:RdV w A (EM zs)) (h8:n≤8) (hz:∀z∈zs,OkM z∧0≤z.n∧z.n≤255) :
  Calls Tryz.prog 35 #[.slice A n c] w fun e w'=>e=.returned (.string (strB (dirL zs)))∧Below w.heap.size w w':=by
 have HR:=Lh R
 have Q1:=Lh hn
 have Q8:=Lh h8
 have HZ:=Lh hz
 have b0:(n:Int)≤8:=by omega
 have qw:IntKind.u8.wrap (n:Int)=((numB (n:Int)).toNat:Int):=qKr (by omega) (by omega)
 obtain⟨n0,hn0⟩:∃n0,n0=numB (n:Int):=⟨_,rfl⟩
 rw[←hn0]at qw
 have N0:=Lh hn0
 clear R hn h8 hn0 hz
 go_enter Tryz.func35,Tryz.ntmps35
 go_wp2_with (refine qQa rfl (qZo 22 9 (.tmp 8) rfl Tryz.underlying22 Tryz.underlying5 Tryz.underlying9 (RdB.one (y:=n0) (qQg (fr:=(0,0)) (qQk _ _ _ rfl) 0 rfl)) 1 1 rfl rfl) ?_)
 go_loopw [3,4] (fun s i wr=>∃j:Nat,j≤n∧s=.string (strB ([n0]++((zs.take j).map memL).flatten))∧i=.int .i64 (j:Int)∧Below w.heap.size w wr) (fun _ i _=>n-(intOf i).toNat)
 case atStart=>exact⟨0,Nat.zero_le _,rfl,rfl,qQh _ _⟩
 case round=>
  obtain⟨j,hj,rfl,rfl,hb⟩:=hrel
  have J:=Lh hj
  have BW:=Lh hb
  obtain⟨wp,rfl⟩:∃wp:World,wp=wr:=⟨_,rfl⟩
  have LL:=Lh (show([n0]++((zs.take j).map memL).flatten).length=1+34*j by
   have h1:=qWe (zs.take j) (fun y hy=>(HZ.out y (List.mem_of_mem_take hy)).1)
   rw[kQj,h1,kQp,Q1.out,Nat.min_eq_left hj];simp)
  obtain⟨s,hs⟩:∃s,s=[n0]++((zs.take j).map memL).flatten:=⟨_,rfl⟩
  rw[←hs]at LL ⊢
  have SE:=Lh hs
  clear hj hb hs
  by_cases hlt:j<n
  ·have hD:decide ((j:Int)<(n:Int))=true:=by simp;omega
   have JQ:=Lh hlt
   obtain⟨z,hz⟩:∃z,zs[j]?=some z:=⟨_,kQi (by rw [Q1.out];exact hlt)⟩
   obtain⟨b,o,hA,hc⟩:=qJ9 HR.out hz
   have AE:=Lh hA
   have OK:=Lh (HZ.out z (kQu hz))
   have zw:IntKind.u8.wrap z.n=((numB z.n).toNat:Int):=qKr OK.out.2.1 OK.out.2.2
   obtain⟨nz,hnz⟩:∃nz,nz=numB z.n:=⟨_,rfl⟩
   rw[←hnz]at zw
   have TK:=Lh (show [n0]++((zs.take (j+1)).map memL).flatten=s++nz::qJk z.o::z.k by rw [List.take_add_one,hz,hnz,SE.out];simp [memL])
   have C0:=Lh (qQL (hc 0 _ rfl) BW.out)
   have C1:=Lh (qQL (hc 1 _ rfl) BW.out)
   have C2:=Lh (qQL (hc 2 _ rfl) BW.out)
   have LB:=Lh (show s.length+40≤400 by have:=LL.out;have:=Q8.out;omega)
   clear hz hA hc hlt hnz
   go_upto_region 5 with fail
   have S:=Lh (show Below wp.heap.size wp wp.drew from(Below.refl _ _).drew)
   refine qZ5 (fun W=>Below wp.heap.size wp W) (.q 0 (.q 1 (.q 2 (.q 3 (.q 4 (.q 5 (.q 6 (.q 10 (.q 11 (.q 12 (.q 13 (.q 14 (.q 17 (.q 18 (.q 19 (.q 20 (.q 21 (.two 7 (.q 8 (.q 9 (.t 15 (.q 16 (.q 22 (.q 23 .done)))))) 15 (.t 7 (.q 8 (.q 9 (.q 16 (.q 22 (.q 23 .done)))))))))))))))))))))))) (by kernel_rfl) (by kernel_rfl) (fun _ _ d _ _ h=>by cases d<;>exact h) ?_
   generalize World.drew wp=wd at *
   refine qQn rfl rfl S.out (fun W hW=>by go_simp;rfl) ?_
   simp only [Act.put,pq1,pq2,pq3]
   refine qQn rfl rfl S.out (fun W hW=>by go_simp;rfl) ?_
   simp only [Act.put,pq1,pq2,pq3]
   refine qQn rfl rfl S.out (fun W hW=>by go_simp;rfl) ?_
   simp only [Act.put,pq1,pq2,pq3]
   refine qQn rfl rfl S.out (fun W hW=>qQr 50 (.tmp 17) (.tmp 18) rfl 73 Tryz.underlying50 3 qQU b o n c j JQ.out .i64 _ rfl (by rw [←AE.out];rfl) rfl W) ?_
   simp only [Act.put,pq1,pq2,pq3]
   refine qQn rfl rfl S.out (fun W hW=>by go_simp;rfl) ?_
   simp only [Act.put,pq1,pq2,pq3]
   refine qQn rfl rfl S.out (fun W hW=>qQq 3 (.tmp 20) rfl _ Tryz.underlying3 rfl rfl (qQL C0.out hW)) ?_
   simp only [Act.put,pq1,pq2,pq3]
   refine qQn rfl rfl S.out (fun W hW=>by go_simp;rfl) ?_
   simp only [Act.put,pq1,pq2,pq3]
   refine qQn rfl rfl S.out (fun W hW=>by go_simp;rfl) ?_
   simp only [Act.put,pq1,pq2,pq3]
   refine qQn rfl rfl S.out (fun W hW=>by go_simp;rfl) ?_
   simp only [Act.put,pq1,pq2,pq3]
   refine qQn rfl rfl S.out (fun W hW=>qQr 50 (.tmp 26) (.tmp 27) rfl 73 Tryz.underlying50 3 qQU b o n c j JQ.out .i64 _ rfl (by rw [←AE.out];rfl) rfl W) ?_
   simp only [Act.put,pq1,pq2,pq3]
   refine qQn rfl rfl S.out (fun W hW=>by go_simp;rfl) ?_
   simp only [Act.put,pq1,pq2,pq3]
   refine qQn rfl rfl S.out (fun W hW=>qQq 4 (.tmp 29) rfl _ Tryz.underlying4 rfl rfl (qQL C2.out hW)) ?_
   simp only [Act.put,pq1,pq2,pq3]
   refine qQn rfl rfl S.out (fun W hW=>by go_simp;rfl) ?_
   simp only [Act.put,pq1,pq2,pq3]
   refine qQn rfl rfl S.out (fun W hW=>by go_simp;rfl) ?_
   simp only [Act.put,pq1,pq2,pq3]
   refine qQn rfl rfl S.out (fun W hW=>qQr 50 (.tmp 33) (.tmp 34) rfl 73 Tryz.underlying50 3 qQU b o n c j JQ.out .i64 _ rfl (by rw [←AE.out];rfl) rfl W) ?_
   simp only [Act.put,pq1,pq2,pq3]
   refine qQn rfl rfl S.out (fun W hW=>by go_simp;rfl) ?_
   simp only [Act.put,pq1,pq2,pq3]
   refine qQn rfl rfl S.out (fun W hW=>qQq 9 (.tmp 36) rfl _ Tryz.underlying9 rfl rfl (qQL C1.out hW)) ?_
   simp only [Act.put,pq1,pq2,pq3]
   refine qZh ?_ ?_
   ·
    refine qQx rfl rfl (fun K hK=>?_)
    go_simp
    generalize hB:Array.size (World.heap wd)=N8
    generalize hw:World.alloc wd _=wn
    obtain⟨ho,hs,hb⟩:=qYf (x:=nz) hw hB S.out
    have O:=Lh (show RdB wn (some ⟨N8,0,none⟩) [nz] by obtain⟨_,_,e,hr,_⟩:=ho.read;cases e;exact hr)
    have SO:=Lh hs
    clear hB hw hb ho hs
    refine hK.out _ _ SO.out ?_
    clear hK K
    refine qJY (fun W=>Below wn.heap.size wn W) (fun _ h=>SO.out.trans (h.mono SO.out.size)) ?_
    have S:=Lh (Below.refl wn.heap.size wn)
    refine qQn rfl rfl S.out (fun W hW=>qZo 22 9 (.tmp 23) rfl Tryz.underlying22 Tryz.underlying5 Tryz.underlying9 (O.out.keep hW) 1 1 rfl rfl) ?_
    simp only [Act.put,pq1,pq2,pq3]
    refine qQn rfl rfl S.out (fun W hW=>qQW 9 _ (.tmp 16) (.tmp 24) rfl s [nz] rfl rfl (by have:=LB.out;simp;omega) W) ?_
    simp only [Act.put,pq1,pq2,pq3]
    refine qQx rfl rfl (fun K hK=>?_)
    go_simp
    refine(qKP z.o _).mono ?_
    rintro e wd ⟨rfl,hw⟩
    rw[hw]
    clear hw wd
    refine hK.out _ _ S.out ?_
    clear hK K
    refine qQn rfl rfl S.out (fun W hW=>qQW 9 _ (.tmp 25) (.tmp 31) rfl (s++[nz]) [qJk z.o] rfl rfl (by have:=LB.out;simp;omega) W) ?_
    simp only [Act.put,pq1,pq2,pq3]
    refine qQn rfl rfl S.out (fun W hW=>qQW 9 _ (.tmp 32) (.tmp 37) rfl (s++[nz]++[qJk z.o]) z.k rfl rfl (by have:=LB.out;have:=OK.out.1.1;simp;omega) W) ?_
    simp only [Act.put,pq1,pq2,pq3]
    refine qQn rfl rfl S.out (fun W hW=>by go_simp;rfl) ?_
    simp only [Act.put,pq1,pq2,pq3]
    refine qQ8 ?_
    go_wp2_with fail
    go_roundw
    case rel=>exact⟨j+1,JQ.out,by rw [TK.out],by go_num,BW.out.trans (SO.out.mono BW.out.size)⟩
    case measure=>have:=JQ.out;simp [intOf];omega
   ·
    refine qQx rfl rfl (fun K hK=>?_)
    go_simp
    refine(qKP z.o _).mono ?_
    rintro e wd ⟨rfl,hw⟩
    rw[hw]
    clear hw wd
    refine hK.out _ _ S.out ?_
    clear hK K
    refine qQx rfl rfl (fun K hK=>?_)
    go_simp
    generalize hB:Array.size (World.heap wd)=N8
    generalize hw:World.alloc wd _=wn
    obtain⟨ho,hs,hb⟩:=qYf (x:=nz) hw hB S.out
    have O:=Lh (show RdB wn (some ⟨N8,0,none⟩) [nz] by obtain⟨_,_,e,hr,_⟩:=ho.read;cases e;exact hr)
    have SO:=Lh hs
    clear hB hw hb ho hs
    refine hK.out _ _ SO.out ?_
    clear hK K
    refine qJY (fun W=>Below wn.heap.size wn W) (fun _ h=>SO.out.trans (h.mono SO.out.size)) ?_
    have S:=Lh (Below.refl wn.heap.size wn)
    refine qQn rfl rfl S.out (fun W hW=>qZo 22 9 (.tmp 23) rfl Tryz.underlying22 Tryz.underlying5 Tryz.underlying9 (O.out.keep hW) 1 1 rfl rfl) ?_
    simp only [Act.put,pq1,pq2,pq3]
    refine qQn rfl rfl S.out (fun W hW=>qQW 9 _ (.tmp 16) (.tmp 24) rfl s [nz] rfl rfl (by have:=LB.out;simp;omega) W) ?_
    simp only [Act.put,pq1,pq2,pq3]
    refine qQn rfl rfl S.out (fun W hW=>qQW 9 _ (.tmp 25) (.tmp 31) rfl (s++[nz]) [qJk z.o] rfl rfl (by have:=LB.out;simp;omega) W) ?_
    simp only [Act.put,pq1,pq2,pq3]
    refine qQn rfl rfl S.out (fun W hW=>qQW 9 _ (.tmp 32) (.tmp 37) rfl (s++[nz]++[qJk z.o]) z.k rfl rfl (by have:=LB.out;have:=OK.out.1.1;simp;omega) W) ?_
    simp only [Act.put,pq1,pq2,pq3]
    refine qQn rfl rfl S.out (fun W hW=>by go_simp;rfl) ?_
    simp only [Act.put,pq1,pq2,pq3]
    refine qQ8 ?_
    go_wp2_with fail
    go_roundw
    case rel=>exact⟨j+1,JQ.out,by rw [TK.out],by go_num,BW.out.trans (SO.out.mono BW.out.size)⟩
    case measure=>have:=JQ.out;simp [intOf];omega
  ·have hD:decide ((j:Int)<(n:Int))=false:=by simp;omega
   have JE:=Lh (show j=n by have:=J.out;omega)
   have LS:=Lh (show s.length=1+34*n by rw [LL.out,JE.out])
   have lb:=qQH s
   rw[LS.out]at lb
   have DE:=Lh (show s++kQc (273-(1+34*n)) 0=dirL zs by
    rw[dirL,SE.out,JE.out,←Q1.out,List.take_length,N0.out,Q1.out])
   go_upto_region 6 with fail
   refine wp_region_list ?_
   simp only [kQf]
   refine qQa (by rfl) (by go_simp;rfl) ?_
   simp only [Act.put,pq1,pq2,pq3]
   refine qQa (by rfl) (by go_simp;rfl) ?_
   simp only [Act.put,pq1,pq2,pq3]
   refine qQa (by rfl) (by go_simp;rfl) ?_
   simp only [Act.put,pq1,pq2,pq3]
   refine qQa (by rfl) (by go_simp;rfl) ?_
   simp only [Act.put,pq1,pq2,pq3]
   refine qQs (by rfl) (fun K hK=>?_)
   go_simp
   refine(qYt _ (273-(1+34*n)) (by have:=Q8.out;rw [show(273-(1+34*(n:Int)))=((273-(1+34*n):Nat):Int) by omega,IntKind.wrap_i64];omega) (by omega) wp).mono ?_
   rintro e w4 ⟨rfl,hw⟩
   rw[hw]
   clear hw w4
   refine hK.out _ _ ?_
   clear hK K
   refine qQa (by rfl) (qQW 9 _ (.tmp 39) (.tmp 43) rfl s (kQc (273-(1+34*n)) 0) rfl rfl (by rw [LS.out,List.length_replicate];have:=Q8.out;omega) _) ?_
   simp only [Act.put,pq1,pq2,pq3]
   rw[DE.out]
   go_wp2_with fail
   go_ret
   exact⟨rfl,BW.out⟩
def SX (xs:List (List UInt8)):List Value:=xs.map fun x=>.string (strB x)
theorem SX_append (xs ys:List (List UInt8)):SX (xs++ys)=SX xs++SX ys:=by simp [SX]
def RgZ:Array Value:=#[.slice none 0 0,.string ⟨#[]⟩]
theorem qZR:(Tryz.prog.info? 45).map (·.size)=some 2:=by kernel_rfl
theorem qXG:(Tryz.prog.info? 45).map (·.size)=some RgZ.size:=qZR
theorem qJ0:RgZ.all (·.oneCell')=true:=by simp [RgZ,Value.oneCell']
theorem qJW {o:Oper} {a:Act} (ho:o.op=.build 45 #[]) (W:World):(execOp a.eval o).run Tryz.prog W=.ok (.value (.agg RgZ)) W:=by
 have h2:∀W:World,(Instr.build 45 #[]).run Tryz.prog W=.ok (.agg RgZ) W:=by
  intro W
  kernel_rfl
 unfold execOp
 have h3:=h2 W
 simp only [ho,kQs,List.map_nil,Sem.run_bind,h3,Result.andThen_ok,Sem.run_pure]
structure RgOut (w:World) (A0:Option Addr) (r:RBx×Option (List (List UInt8)×List UInt8)×Int) (A:Option Addr) (n c:Nat) (B:Option Addr) (m k:Nat) (w':World):Prop where
 rd:RdV w' A (EC r.1.L)
 ln:r.1.L.length=n
 cap:n≤c
 off:∀a,A=some a→(w.heap.size≤a.block∧a.block<w'.heap.size)∨A0=some a
 xs:RdV w' B (SX (r.2.1.getD ([],[])).1)
 xl:(r.2.1.getD ([],[])).1.length=m
 xc:m≤k
 xo:∀a,B=some a→w.heap.size≤a.block∧a.block<w'.heap.size
 bel:Below w.heap.size w w'
def RAgP (w:World) (A0:Option Addr) (r:RBx×Option (List (List UInt8)×List UInt8)×Int) (e:Ending) (w':World):Prop:=
 ∃A n c B m k,e=.returned (.tuple #[.agg (RBC r.1.mode r.1.F r.1.u A n c),.agg #[.slice B m k,.string (strB (r.2.1.getD ([],[])).2)],.int .i64 r.2.2])∧RgOut w A0 r A n c B m k w'
structure RgQ (w:World) (A0:Option Addr) (y:Kys) (M:Nat) (q:RBx) (A:Option Addr) (n c:Nat) (v:Value) (xs:List (List UInt8)) (W:World):Prop where
 bel:Below w.heap.size w W
 m:w.heap.size+3<M
 box:W.heap[w.heap.size]?=some (.cells (RBC q.mode q.F q.u A n c) 32 (0,0))
 keys:W.heap[w.heap.size+1]?=some (.cells (RowQ y) 47 (0,0))
 r6:W.heap[w.heap.size+2]?=some (.cells RBZ 32 (0,0))
 r7:W.heap[w.heap.size+3]?=some (.cells RgZ 45 (0,0))
 ring:W.heap[M]?=some (.cells #[v,.string ⟨#[]⟩] 45 (0,0))
 own:OwnV W (M+1) 9 v (SX xs)
 rd:RdV W A (EC q.L)
 ln:q.L.length=n
 cap:n≤c
 off:∀a,A=some a→a.block<W.heap.size∧(A0=some a∨M<a.block)∧v.ownBlock≠some a.block
section
variable {w W W':World} {A0:Option Addr} {y:Kys} {M:Nat} {q q':RBx} {A A':Option Addr} {n c n' c':Nat} {v:Value} {xs:List (List UInt8)}
theorem RgQ.keep (h:RgQ w A0 y M q A n c v xs W) (hb:Below W.heap.size W W'):RgQ w A0 y M q A n c v xs W':=
 ⟨h.bel.trans (hb.mono h.bel.size),h.m,qQb hb (qQe h.box) h.box,qQb hb (qQe h.keys) h.keys,qQb hb (qQe h.r6) h.r6,qQb hb (qQe h.r7) h.r7,qQb hb (qQe h.ring) h.ring,h.own.below hb,h.rd.keep hb,h.ln,h.cap,fun a e=>⟨kQb (h.off a e).1 hb.size,(h.off a e).2⟩⟩
theorem RgQ.put (h:RgQ w A0 y M q A n c v xs W) (h0:∀a,A0=some a→a.block<w.heap.size) (hg:W.grownBy W' (some w.heap.size)) (hz:W'.heap[w.heap.size]?=some (.cells (RBC q'.mode q'.F q'.u A' n' c') 32 (0,0)))
  (hr:RdV W A' (EC q'.L)) (hl:q'.L.length=n') (hc:n'≤c') (ho:∀a,A'=some a→a.block<W.heap.size∧(A0=some a∨M<a.block)∧v.ownBlock≠some a.block):RgQ w A0 y M q' A' n' c' v xs W':=by
 have hm:=h.m
 have hv:=h.own.lt
 have k:∀{j:Nat} {o:Obj},j≠w.heap.size→W.heap[j]?=some o→W'.heap[j]?=some o:=fun hj hx=>qQd hg (fun e=>hj (Option.some.inj e)) hx
 refine⟨h.bel.trans (qQi hg h.bel.size (by rintro k ⟨⟩;exact kQh _)),h.m,hz,k (by omega) h.keys,k (by omega) h.r6,k (by omega) h.r7,k (by omega) h.ring,h.own.grown hg (.inr fun e=>by have:=hv _ e;omega),hr.grown hg ?_,hl,hc,fun a e=>⟨kQb (ho a e).1 hg.size,(ho a e).2⟩⟩
 rintro g ⟨⟩ a ea
 rcases (ho a ea).2.1 with h1|h1
 ·have:=h0 a h1;omega
 ·omega
theorem RgQ.far (h:RgQ w A0 y M q A n c v xs W) (h0:∀a,A0=some a→a.block<w.heap.size) {a:Addr} (e:A=some a):a.block<w.heap.size∨M<a.block:=(h.off a e).2.1.imp_left (h0 a)
theorem RgQ.next {W2 W3 W4:World} (h:RgQ w A0 y M q A n c v xs W) (h0:∀a,A0=some a→a.block<w.heap.size) {x:List UInt8} (h2:Below W.heap.size W W2) {v3:Value} (ho:OwnV W3 (M+1) 9 v3 (SX xs++[.string (strB x)])) (hg:W2.grownBy W3 v.ownBlock)
  (hat:v3.ownBlock=v.ownBlock∨v3.ownBlock=some W2.heap.size) (hr:W4.heap[M]?=some (.cells #[v3,.string ⟨#[]⟩] 45 (0,0))) (hg4:W3.grownBy W4 (some M)):RgQ w A0 y M q A n c v3 (xs++[x]) W4:=by
 have k:=h.keep h2
 have hm:=h.m
 have hv:=k.own.lt
 have kb:∀{j:Nat} {o:Obj},j<M→W2.heap[j]?=some o→W4.heap[j]?=some o:=fun hj hx=>qQd hg4 (fun e=>by have:=Option.some.inj e;omega) (qQd hg (fun e=>by have:=(hv _ e.symm).1;omega) hx)
 refine⟨(k.bel.trans (qQi hg k.bel.size (fun g e=>by have:=(hv g e).1;omega))).trans (qQi hg4 (kQk k.bel.size hg.size) (by rintro g ⟨⟩;omega)),hm,kb (by omega) k.box,kb (by omega) k.keys,kb (by omega) k.r6,kb (by omega) k.r7,hr,?_,(k.rd.grown hg (fun g e a ea eb=>(k.off a ea).2.2 (by rw [e,eb]))).grown hg4 ?_,k.ln,k.cap,fun a e=>⟨kQb (k.off a e).1 (kQk hg.size hg4.size),(k.off a e).2.1,?_⟩⟩
 ·rw [SX_append]
  refine OwnV.grown ho hg4 ?_
  rcases hq:v3.ownBlock with _|b
  ·exact .inl rfl
  ·refine .inr fun e=>?_
   have:=Option.some.inj e
   have:=(ho.lt b hq).1
   omega
 ·rintro g ⟨⟩ a ea
  rcases k.far h0 ea with h1|h1<;>omega
 ·rcases hat with h1|h1<;>rw [h1]
  ·exact(k.off a e).2.2
  ·intro e2
   have:=(k.off a e).1
   have:=Option.some.inj e2
   omega
theorem RgQ.done {W1 W2:World} (h:RgQ w A0 y M q A n c v xs W) (h0:∀a,A0=some a→a.block<w.heap.size) (hg:W.grownBy W1 (some (w.heap.size+2))) (hg2:W1.grownBy W2 (some (w.heap.size+3))) :
  RdV W2 A (EC q.L)∧(∀a,A=some a→(w.heap.size≤a.block∧a.block<W2.heap.size)∨A0=some a)∧Below w.heap.size w W2∧OwnV W2 (M+1) 9 v (SX xs):=by
 have hm:=h.m
 have hv:=h.own.lt
 refine⟨(h.rd.grown hg ?_).grown hg2 ?_,fun a e=>(h.off a e).2.1.symm.imp_left fun h1=>⟨by omega,kQb (h.off a e).1 (kQk hg.size hg2.size)⟩,(h.bel.trans (qQi hg h.bel.size (by rintro g ⟨⟩;omega))).trans (qQi hg2 (kQk h.bel.size hg.size) (by rintro g ⟨⟩;omega)),(h.own.grown hg (.inr fun e=>by have:=hv _ e;omega)).grown hg2 (.inr fun e=>by have:=hv _ e;omega)⟩ <;>
 ·rintro g ⟨⟩ a ea
  rcases h.far h0 ea with h1|h1<;>omega
end
section
variable {o:Oper} {a:Act} {Q:Exit→Act→World→Prop} {K:Act→World→Prop} {W:World}
theorem qY0 (x y:Operand) (ho:o.op=.store 43 x y) (g i:Nat) (A:Option Addr) (n c:Nat) (hx:a.eval x=.pointer (some ⟨g,i,none⟩)) (hy:a.eval y=.slice A n c) {cur:Array Value} {t:TypeId} (hg:W.heap[g]?=some (.cells cur t (0,0))) (hi:i<cur.size)
  (h:∀w',w'.heap[g]?=some (.cells (cur.setIfInBounds i (.slice A n c)) t (0,0))→W.grownBy w' (some g)→K (a.put o.dst undef) w'):o.wp Tryz.prog a W K Q:=by
 have c0:=qQg hg i (Array.getElem?_eq_getElem hi)
 have f0:=qQz hg i
 obtain⟨h1,h2,_⟩:=qVk (v:=.slice A n c) (i:=i) hg
 have hh:=h _ h1 h2
 clear h h1 h2 hg
 unfold Oper.wp execOp
 simp only [ho,hx,hy]
 go_simp
 exact hh
theorem qVf (x y:Operand) (ho:o.op=.store 9 x y) (g i:Nat) (s:ByteArray) (hx:a.eval x=.pointer (some ⟨g,i,none⟩)) (hy:a.eval y=.string s) {cur:Array Value} {t:TypeId} (hg:W.heap[g]?=some (.cells cur t (0,0))) (hi:i<cur.size)
  (h:∀w',w'.heap[g]?=some (.cells (cur.setIfInBounds i (.string s)) t (0,0))→W.grownBy w' (some g)→K (a.put o.dst undef) w'):o.wp Tryz.prog a W K Q:=by
 have c0:=qQg hg i (Array.getElem?_eq_getElem hi)
 have f0:=qQz hg i
 obtain⟨h1,h2,_⟩:=qVk (v:=.string s) (i:=i) hg
 have hh:=h _ h1 h2
 clear h h1 h2 hg
 unfold Oper.wp execOp
 simp only [ho,hx,hy]
 go_simp
 exact hh
end
theorem qVO (w:World) (q:RBx) (hm:q.mode=0∨q.mode=1) (A:Option Addr) (n c:Nat) (hn:q.L.length=n) (hc:n≤c) (hR:RdV w A (EC q.L)) (hA:∀a,A=some a→a.block<w.heap.size) (y:Kys) (hy:OkK y)
  (Am:Option Addr) (nm cm:Nat) (zs:List Mem) (hzs:zs.length=nm) (RM:RdV w Am (EM zs)) (hz:∀z∈zs,OkM z) (h1:nm≤1000) (hF:q.F.length≤2900) (hu:q.u≤700000) (hL:n≤9000) :
  Calls Tryz.prog 16 #[.agg (RBC q.mode q.F q.u A n c),.agg (RowQ y),.slice Am nm cm] w (RAgP w A (qZ3 y zs q)):=by
 have HM:=Lh hm
 have HN:=Lh hn
 have HC:=Lh hc
 have HR:=Lh hR
 have HA:=Lh hA
 have HY:=Lh hy
 have ZL:=Lh hzs
 have HRM:=Lh RM
 have HZ:=Lh hz
 have HF:=Lh hF
 have HU:=Lh hu
 have HL:=Lh hL
 have N1:=Lh h1
 have SO:=Lh (show SlT Tryz.prog 43 9 (.string ⟨#[]⟩) 16 from⟨Tryz.underlying43,by kernel_rfl,rfl⟩)
 obtain⟨cs,hcs⟩:∃cs,cs=RBC q.mode q.F q.u A n c:=⟨_,rfl⟩
 obtain⟨ks,hks⟩:∃ks,ks=RowQ y:=⟨_,rfl⟩
 rw[←hcs,←hks]
 have CE:=Lh hcs
 have KE:=Lh hks
 have CZ:=Lh (show(Tryz.prog.info? 32).map (·.size)=some cs.size by rw [hcs];exact qQK)
 have CO:=Lh (show cs.all (·.oneCell')=true by rw [hcs];exact qQ3 _ _ _ _ _ _)
 have C4:=Lh (show RBZ.size=cs.size by rw [hcs];rfl)
 have KZ:=Lh (show(Tryz.prog.info? 47).map (·.size)=some ks.size by rw [hks];exact qZH y)
 clear hm hn hc hR hA hy hzs RM hz hF hu hL hcs hks
 go_enter Tryz.func16,Tryz.ntmps16
 go_upto_region 1 with fail
 generalize hw1:World.alloc w _=w1
 generalize hw2:World.alloc w1 _=w2
 generalize hw3:World.alloc w2 _=w3
 generalize hw4:World.alloc w3 _=w4
 have z1:w1.heap.size=w.heap.size+1:=by rw [←hw1,qQD]
 have z2:w2.heap.size=w.heap.size+2:=by rw [←hw2,qQD,z1]
 have z3:w3.heap.size=w.heap.size+3:=by rw [←hw3,qQD,z2]
 have z4:w4.heap.size=w.heap.size+4:=by rw [←hw4,qQD,z3]
 have k4:Below w1.heap.size w1 w4:=by
  have b12:Below w1.heap.size w1 w2:=by rw [←hw2];exact qQh _ _
  have b23:Below w2.heap.size w2 w3:=by rw [←hw3];exact qQh _ _
  have b34:Below w3.heap.size w3 w4:=by rw [←hw4];exact qQh _ _
  exact b12.trans ((b23.trans (b34.mono b23.size)).mono b12.size)
 have k3:Below w2.heap.size w2 w4:=by
  have b23:Below w2.heap.size w2 w3:=by rw [←hw3];exact qQh _ _
  have b34:Below w3.heap.size w3 w4:=by rw [←hw4];exact qQh _ _
  exact b23.trans (b34.mono b23.size)
 have k2:Below w3.heap.size w3 w4:=by rw [←hw4];exact qQh _ _
 have B4:=Lh (show Below w.heap.size w w4 by
  have b1:Below w.heap.size w w1:=by rw [←hw1];exact qQh _ _
  exact b1.trans (k4.mono b1.size))
 have R3:=Lh (show w4.heap[w.heap.size]?=some (.cells cs 32 (0,0))from qQb k4 (by omega) (by rw [←hw1];exact qQk _ _ _ rfl))
 have R4:=Lh (show w4.heap[w.heap.size+1]?=some (.cells ks 47 (0,0))from qQb k3 (by omega) (by rw [←hw2];exact qQk _ _ _ z1.symm))
 have R6:=Lh (show w4.heap[w.heap.size+2]?=some (.cells RBZ 32 (0,0))from qQb k2 (by omega) (by rw [←hw3];exact qQk _ _ _ z2.symm))
 have R7:=Lh (show w4.heap[w.heap.size+3]?=some (.cells RgZ 45 (0,0)) by rw [←hw4];exact qQk _ _ _ z3.symm)
 have Z4:=Lh z4
 clear k2 k3 k4 hw1 hw2 hw3 hw4 z1 z2 z3 z4
 go_wp2_with fail
 refine(qVL w4 Am nm cm zs ZL.out (HRM.out.keep B4.out) N1.out).mono ?_
 rintro e w5 ⟨rfl,hb5⟩
 have B5:=Lh (B4.out.trans (hb5.mono B4.out.size))
 have R3:=Lh (qQb hb5 (qQe R3.out) R3.out)
 have R4:=Lh (qQb hb5 (qQe R4.out) R4.out)
 have R6:=Lh (qQb hb5 (qQe R6.out) R6.out)
 have R7:=Lh (qQb hb5 (qQe R7.out) R7.out)
 have Z5:=Lh (show w.heap.size+4≤w5.heap.size by have:=hb5.size;have:=Z4.out;omega)
 clear hb5
 by_cases hck:qZd zs=true
 case neg=>
  have AE:=Lh (show qZ3 y zs q=(q,none,2) by rw [qZ3,if_neg hck])
  rw[show chk zs=2 by rw [chk,if_neg hck]]
  clear hck
  go_upto_region 3 with fail
  refine wp_region_list ?_
  simp only [kQf]
  refine qQa (by rfl) (qQj 32 (.tmp 3) rfl w.heap.size rfl 32 cs (0,0) _ R3.out Tryz.underlying32 rfl CZ.out) ?_
  simp only [Act.put,pq1,pq2,pq3]
  refine qQa (by rfl) (qJW rfl _) ?_
  simp only [Act.put,pq1,pq2,pq3]
  refine qQa (by rfl) (by go_simp;rfl) ?_
  simp only [Act.put,pq1,pq2,pq3]
  refine qQf rfl rfl 32 (.tmp 6) (.tmp 24) rfl (w.heap.size+2) cs rfl rfl 32 RBZ R6.out CZ.out C4.out CO.out ?_
  intro w6 hz6 hg6 _
  refine qQf rfl rfl 45 (.tmp 7) (.tmp 25) rfl (w.heap.size+3) RgZ rfl rfl 45 RgZ (qQd hg6 (by intro e;injection e with e;omega) R7.out) qXG rfl qJ0 ?_
  intro w7 hz7 hg7 _
  go_wp2_with fail
  refine qWb (w.heap.size+2) (w.heap.size+3) 32 45 cs RgZ _ rfl rfl rfl rfl rfl (qQd hg7 (by intro e;injection e with e;omega) hz6) Tryz.underlying32 rfl CZ.out hz7 Tryz.underlying45 rfl qXG ?_
  rw[AE.out]
  have B7:=(qQo (qQo B5.out hg6 (by omega)) hg7 (by omega))
  refine⟨A,n,c,none,0,0,by rw [CE.out];rfl,?_,HN.out,HC.out,fun a e=>.inr e,RdV.nil _ _,rfl,kQh _,(by rintro a ⟨⟩),B7⟩
  exact HR.out.below B7 HA.out
 case pos=>
 have CK:=Lh hck
 rw[show chk zs=0 by rw [chk,if_pos hck]]
 clear hck
 go_upto_region 5 with (first
  | (refine qQa rfl (qJW rfl _) ?_)
  | (refine qQp rfl rfl 45 (.tmp 10) (.tmp 27) rfl RgZ rfl rfl qXG rfl qJ0 ?_))
 generalize hM:Array.size (World.heap w5)=M
 generalize hw6:World.alloc w5 _=w6
 have b6:Below w5.heap.size w5 w6:=by rw [←hw6];exact qQh _ _
 have G6:=Lh (show RgQ w A y M q A n c (.slice none 0 0) [] w6 from⟨B5.out.trans (b6.mono B5.out.size),by have:=Z5.out;omega,by rw [←CE.out];exact qQb b6 (qQe R3.out) R3.out,by rw [←KE.out];exact qQb b6 (qQe R4.out) R4.out,qQb b6 (qQe R6.out) R6.out,qQb b6 (qQe R7.out) R7.out,by rw [←hw6];exact qQk _ _ _ hM.symm,
  OwnV.nil _ _ _,(HR.out.keep B5.out).keep b6,HN.out,HC.out,fun a e=>⟨kQb (HA.out a e) (kQk B5.out.size b6.size),.inl e,(by intro h;cases h)⟩⟩)
 clear hM hw6 b6 R3 R4 R6 R7 B4 B5 Z4 Z5 CZ CO C4 CE
 go_wp2_with fail
 go_loopw [11] (fun i wr=>∃(j:Nat) (q1:RBx) (A1:Option Addr) (n1 c1:Nat) (v:Value) (xs:List (List UInt8)),j≤8∧i=.int .i64 (j:Int)∧qZz y zs q j=(q1,some xs)∧RgQ w A y M q1 A1 n1 c1 v xs wr) (fun i _=>8-(intOf i).toNat)
 case atStart=>exact⟨0,q,A,n,c,_,[],Nat.zero_le _,rfl,rfl,G6.out⟩
 case round=>
  obtain⟨j,q1,A1,n1,c1,v,xs,hj,rfl,hwq,hG⟩:=hrel
  have J:=Lh hj
  have WQ:=Lh hwq
  have G:=Lh hG
  have BD:=Lh (show q1.mode=q.mode∧q1.F=q.F∧q1.u≤q.u+j*840∧q1.L.length≤q.L.length+j by have h1:=@wrapsQ_bd y HY.out zs q j;rw [hwq]at h1;exact h1)
  clear hj hwq hG G6
  obtain⟨wp,rfl⟩:∃wp:World,wp=wr:=⟨_,rfl⟩
  obtain⟨cs,hcs⟩:∃cs,cs=RBC q1.mode q1.F q1.u A1 n1 c1:=⟨_,rfl⟩
  have CE:=Lh hcs
  have CZ:=Lh (show(Tryz.prog.info? 32).map (·.size)=some cs.size by rw [hcs];exact qQK)
  have CO:=Lh (show cs.all (·.oneCell')=true by rw [hcs];exact qQ3 _ _ _ _ _ _)
  have C4:=Lh (show RBZ.size=cs.size by rw [hcs];rfl)
  have RB:=Lh (show wp.heap[w.heap.size]?=some (.cells cs 32 (0,0)) by rw [hcs];exact G.out.box)
  have RK:=Lh (show wp.heap[w.heap.size+1]?=some (.cells ks 47 (0,0)) by rw [KE.out];exact G.out.keys)
  clear hcs
  by_cases hlt:j<8
  ·have hD:decide ((j:Int)<8)=true:=by simp;omega
   have J8:=Lh hlt
   have jb:(j:Int)<8:=by omega
   obtain⟨r0,hr0⟩:∃r0,r0=entQ y zs j q1:=⟨_,rfl⟩
   obtain⟨qE,E⟩:=r0
   have EE:=Lh hr0
   have EL:=Lh (show E.key.length=32∧E.text.length=73∧E.beside=qZF by have h1:=@entQ_text y HY.out zs j q1;have h2:=@entQ_key y zs HZ.out j q1;have h3:=@entQ_bd y zs j q1;rw [←hr0]at h1 h2 h3;exact⟨h2,h1,h3.1⟩)
   have EB:=Lh (show qE.mode=q1.mode∧qE.F=q1.F∧qE.u≤q1.u+32∧qE.L=q1.L by have h3:=@entQ_bd y zs j q1;rw [←hr0]at h3;exact h3.2)
   clear hr0 hlt
   go_wp2_with fail
   refine(full_any wp).mono ?_
   rintro e wx ⟨rfl,hw⟩
   rw[hw]
   clear hw wx
   go_upto_if 36 with fail
   go_cut [12,13] (fun v12 v13 wx=>v12=.string (strB E.key)∧v13=.string (strB E.text)∧RgQ w A y M qE A1 n1 c1 v xs wx)
   case first=>
    by_cases hlt:j<nm
    ·as_aux_lemma=>
      have hE:decide ((j:Int)<(nm:Int))=true:=by simp;omega
      obtain⟨z,hz⟩:∃z,zs[j]?=some z:=⟨_,kQi (by rw [ZL.out];exact hlt)⟩
      obtain⟨b,o,hAm,hcm⟩:=qJ9 HRM.out hz
      obtain⟨rfl,rfl⟩:qE=q1∧E=⟨z.k,qZF,qXh y z.o⟩:=by have h1:=EE.out;rw [entQ,hz]at h1;injection h1 with h1 h2;exact⟨h1,h2⟩
      have AE:=Lh hAm
      have JQ:=Lh hlt
      have C1:=Lh (qQL (hcm 1 _ rfl) G.out.bel)
      have C2:=Lh (qQL (hcm 2 _ rfl) G.out.bel)
      have Z:=Lh (show Below wp.heap.size wp wp.drew from(Below.refl _ _).drew)
      clear hz hAm hcm
      go_upto_region 10 with fail
      refine qQu (fun W=>Below wp.heap.size wp W) [(true,0),(true,1),(true,2),(true,3),(true,4),(true,5),(true,6),(true,7),(true,8),(true,9),(true,10),(false,11),(true,12),(true,13)] (by kernel_rfl) (by kernel_rfl) (fun _ _ d _ _ h=>by cases d<;>exact h) ?_
      simp only [kQl,kQm,kQd,kQg,kQe,kQo]
      generalize World.drew wp=wd at *
      refine qQc (by rfl) Z.out (fun W hW=>by go_simp;rfl) ?_
      simp only [Act.put,pq1,pq2,pq3]
      refine qQc (by rfl) Z.out (fun W hW=>by go_simp;rfl) ?_
      simp only [Act.put,pq1,pq2,pq3]
      refine qQc (by rfl) Z.out (fun W hW=>qQr 50 (.tmp 37) (.tmp 38) rfl 73 Tryz.underlying50 3 qQU b o nm cm j JQ.out .i64 _ rfl (by rw [←AE.out];rfl) rfl W) ?_
      simp only [Act.put,pq1,pq2,pq3]
      refine qQc (by rfl) Z.out (fun W hW=>by go_simp;rfl) ?_
      simp only [Act.put,pq1,pq2,pq3]
      refine qQc (by rfl) Z.out (fun W hW=>qQq 9 (.tmp 40) rfl _ Tryz.underlying9 rfl rfl (qQL C1.out hW)) ?_
      simp only [Act.put,pq1,pq2,pq3]
      refine qQc (by rfl) Z.out (fun W hW=>qQj 47 (.tmp 4) rfl (w.heap.size+1) rfl 47 ks (0,0) _ (qQb hW (qQe RK.out) RK.out) Tryz.underlying47 rfl KZ.out) ?_
      simp only [Act.put,pq1,pq2,pq3]
      refine qQc (by rfl) Z.out (fun W hW=>by go_simp;rfl) ?_
      simp only [Act.put,pq1,pq2,pq3]
      refine qQc (by rfl) Z.out (fun W hW=>by go_simp;rfl) ?_
      simp only [Act.put,pq1,pq2,pq3]
      refine qQc (by rfl) Z.out (fun W hW=>qQr 50 (.tmp 43) (.tmp 44) rfl 73 Tryz.underlying50 3 qQU b o nm cm j JQ.out .i64 _ rfl (by rw [←AE.out];rfl) rfl W) ?_
      simp only [Act.put,pq1,pq2,pq3]
      refine qQc (by rfl) Z.out (fun W hW=>by go_simp;rfl) ?_
      simp only [Act.put,pq1,pq2,pq3]
      refine qQc (by rfl) Z.out (fun W hW=>qQq 4 (.tmp 46) rfl _ Tryz.underlying4 rfl rfl (qQL C2.out hW)) ?_
      simp only [Act.put,pq1,pq2,pq3]
      refine qQE (by rfl) (fun K hK=>?_)
      go_simp
      rw[KE.out]
      refine(rtext_any wd y HY.out z.o).mono ?_
      rw[←KE.out]
      rintro e w8 ⟨rfl,hb⟩
      have Z:=Lh (Z.out.trans (hb.mono Z.out.size))
      clear hb
      refine hK.out _ _ Z.out ?_
      clear hK K
      refine qQc (by rfl) Z.out (fun W hW=>by go_simp;rfl) ?_
      simp only [Act.put,pq1,pq2,pq3]
      refine qQc (by rfl) Z.out (fun W hW=>by go_simp;rfl) ?_
      simp only [Act.put,pq1,pq2,pq3]
      refine qQG ?_
      go_wp2_with fail
      go_meet
      exact⟨rfl,rfl,G.out.keep Z.out⟩
    ·as_aux_lemma=>
      have hE:decide ((j:Int)<(nm:Int))=false:=by simp;omega
      obtain⟨rfl,rfl⟩:qE={ q1 with u:=q1.u+32 }∧E=⟨qQR q1.F q1.u 32,qZF,fullL⟩:=by
       have h1:=EE.out
       rw[entQ,List.getElem?_eq_none (by rw [ZL.out];omega)]at h1
       injection h1 with h1 h2
       exact⟨h1,h2⟩
      go_upto_region 11 with fail
      refine wp_region_list ?_
      simp only [kQf]
      refine qQa (by rfl) (qQj 32 (.tmp 3) rfl w.heap.size rfl 32 cs (0,0) _ RB.out Tryz.underlying32 rfl CZ.out) ?_
      simp only [Act.put,pq1,pq2,pq3]
      refine qQs (by rfl) (fun K hK=>?_)
      go_simp
      rw[CE.out]
      refine(qVq q1.mode q1.F q1.u A1 n1 c1 (by rw [BD.out.2.1];exact HF.out) (by have:=BD.out.2.2.1;have:=HU.out;have:=J8.out;omega) 32 (by omega) wp).mono ?_
      rw[←CE.out]
      obtain⟨X,hX⟩:∃X,X=qQR q1.F q1.u 32:=⟨_,rfl⟩
      obtain⟨ds,hds⟩:∃ds,ds=RBC q1.mode q1.F (q1.u+32) A1 n1 c1:=⟨_,rfl⟩
      rw[←hX,←hds]
      have DE:=Lh hds
      have DZ:=Lh (show(Tryz.prog.info? 32).map (·.size)=some ds.size by rw [hds];exact qQK)
      have DO:=Lh (show ds.all (·.oneCell')=true by rw [hds];exact qQ3 _ _ _ _ _ _)
      have D4:=Lh (show cs.size=ds.size by rw [hds,←C4.out];rfl)
      rintro e w8 ⟨rfl,hb⟩
      have G8:=Lh (G.out.keep hb)
      have RB8:=Lh (qQb hb (qQe RB.out) RB.out)
      clear hb hds
      refine hK.out _ _ ?_
      clear hK K
      go_wp2_with (refine qQf rfl rfl 32 (.tmp 3) (.tmp 52) rfl w.heap.size ds rfl rfl 32 cs RB8.out DZ.out D4.out DO.out ?_;intro w9 hz9 hg9 _)
      go_meet
      refine⟨rfl,rfl,G8.out.put HA.out hg9 (by rw [hz9,DE.out]) G8.out.rd G8.out.ln G8.out.cap G8.out.off⟩
   case rest=>
   obtain⟨rfl,rfl,hG⟩:=hcut
   clear cs CE CZ CO C4 RB RK
   have G:=Lh hG
   clear hG
   obtain⟨cs,hcs⟩:∃cs,cs=RBC qE.mode qE.F qE.u A1 n1 c1:=⟨_,rfl⟩
   have CE:=Lh hcs
   have CZ:=Lh (show(Tryz.prog.info? 32).map (·.size)=some cs.size by rw [hcs];exact qQK)
   have RB:=Lh (show wc.heap[w.heap.size]?=some (.cells cs 32 (0,0)) by rw [hcs];exact G.out.box)
   have C4:=Lh (show(4:Nat)=cs.size by rw [hcs];rfl)
   clear hcs
   obtain⟨r,hr⟩:∃r,r=qW0 qE E:=⟨_,rfl⟩
   have RE:=Lh hr
   have WN:=Lh (show qZz y zs q (j+1)=(r.1,r.2.map fun x=>xs++[x]) by rw [qX6 WQ.out,←EE.out,hr])
   clear hr
   obtain⟨ek,hek⟩:∃ek:Int,ek=(if r.2.isSome then 0 else 15):=⟨_,rfl⟩
   have EKE:=Lh hek
   clear hek
   go_upto_region 12 with fail
   refine wp_region_list ?_
   simp only [kQf]
   refine qQa (by rfl) (qQj 32 (.tmp 3) rfl w.heap.size rfl 32 cs (0,0) _ RB.out Tryz.underlying32 rfl CZ.out) ?_
   simp only [Act.put,pq1,pq2,pq3]
   refine qQa (by rfl) (by go_simp;rfl) ?_
   simp only [Act.put,pq1,pq2,pq3]
   refine qQa (by rfl) (by go_simp;rfl) ?_
   simp only [Act.put,pq1,pq2,pq3]
   refine qQs (by rfl) (fun K hK=>?_)
   go_simp
   rw[CE.out,show(⟨#[119,114,97,112]⟩:ByteArray)=strB E.beside by rw [EL.out.2.2];rfl]
   refine(qVM qE (by rw [EB.out.1,BD.out.1];exact HM.out) A1 n1 c1 G.out.ln G.out.cap wc G.out.rd E.key E.beside E.text EL.out.1 (by rw [EL.out.2.2];decide) (by rw [EL.out.2.1];omega) (by rw [EB.out.2.1,BD.out.2.1];exact HF.out) (by have:=EB.out.2.2.1;have:=BD.out.2.2.1;have:=HU.out;have:=J8.out;omega) (by have:=G.out.ln;rw [EB.out.2.2.2]at this;have:=BD.out.2.2.2;have:=HL.out;have:=HN.out;have:=J8.out;omega)).mono ?_
   rw[←CE.out,show qX9 qE E.key E.beside E.text=r from RE.out.symm]
   rintro e w8 ⟨A2,n2,c2,rfl,hrd,hln,hcp,hof,hb⟩
   rw[←EKE.out]
   obtain⟨ds,hds⟩:∃ds,ds=RBC r.1.mode r.1.F r.1.u A2 n2 c2:=⟨_,rfl⟩
   rw[←hds]
   have DE:=Lh hds
   have DZ:=Lh (show(Tryz.prog.info? 32).map (·.size)=some ds.size by rw [hds];exact qQK)
   have DO:=Lh (show ds.all (·.oneCell')=true by rw [hds];exact qQ3 _ _ _ _ _ _)
   have D4:=Lh (show(4:Nat)=ds.size by rw [hds];rfl)
   have G8:=Lh (G.out.keep hb)
   have RB8:=Lh (qQb hb (qQe RB.out) RB.out)
   have RD8:=Lh hrd
   have LN8:=Lh hln
   have CP8:=Lh hcp
   have OF8:=Lh (show ∀a,A2=some a→a.block<w8.heap.size∧(A=some a∨M<a.block)∧v.ownBlock≠some a.block from fun a e=>by
    rcases hof a e with h|h
    ·have h1:=qQe G.out.ring
     exact⟨h.2,.inr (by omega),fun ev=>by have:=(G.out.own.lt _ ev).2;omega⟩
    ·exact⟨kQb (G.out.off a h).1 hb.size,(G.out.off a h).2⟩)
   have S8:=Lh hb.size
   clear hrd hln hcp hof hb hds
   refine hK.out _ _ ?_
   clear hK K
   go_upto_region 13 with (refine qQp rfl rfl 32 (.tmp 14) (.tmp 59) rfl ds rfl rfl DZ.out D4.out DO.out ?_)
   generalize hM9:Array.size (World.heap w8)=M9
   generalize hw9:World.alloc w8 _=w9
   have b9:Below w8.heap.size w8 w9:=by rw [←hw9];exact qQh _ _
   have G9:=Lh (G8.out.keep b9)
   have RB9:=Lh (qQb b9 (qQe RB8.out) RB8.out)
   have RD9:=Lh (RD8.out.keep b9)
   have OF9:=Lh (show ∀a,A2=some a→a.block<w9.heap.size∧(A=some a∨M<a.block)∧v.ownBlock≠some a.block from fun a e=>⟨kQb (OF8.out a e).1 b9.size,(OF8.out a e).2⟩)
   have R9:=Lh (show w9.heap[M9]?=some (.cells ds 32 (0,0)) by rw [←hw9];exact qQk _ _ _ hM9.symm)
   clear hM9 hw9 b9 RB8 RD8 OF8 G8
   go_upto_region 14 with (first
    | (refine qQa rfl (qQj 32 (.tmp 14) rfl M9 rfl 32 ds (0,0) _ R9.out Tryz.underlying32 rfl DZ.out) ?_)
    | (refine qQf rfl rfl 32 (.tmp 3) (.tmp 62) rfl w.heap.size ds rfl rfl 32 cs RB9.out DZ.out (by rw [←D4.out,←C4.out]) DO.out ?_;intro w10 hz10 hg10 hs10;clear hs10))
   have G10:=Lh (show RgQ w A y M r.1 A2 n2 c2 v xs w10 from G9.out.put HA.out hg10 (by rw [hz10,DE.out]) RD9.out LN8.out CP8.out OF9.out)
   have RB10:=Lh hz10
   clear hz10 hg10 G9 RB9 R9 RD9 OF9 LN8 CP8 RB C4 CZ
   obtain⟨q2,rx⟩:=r
   have G10:=Lh (show RgQ w A y M q2 A2 n2 c2 v xs w10 from G10.out)
   rcases rx with _|x
   ·as_aux_lemma=>
     obtain rfl:ek=15:=by rw [EKE.out];rfl
     have AE:=Lh (show qZ3 y zs q=(q2,none,15) by rw [qZ3,if_pos CK.out,qYv WN.out (by have:=J8.out;omega)];rfl)
     have DE:=Lh (show ds=RBC q2.mode q2.F q2.u A2 n2 c2 from DE.out)
     go_upto_region 15 with fail
     refine wp_region_list ?_
     simp only [kQf]
     refine qQa (by rfl) (qQj 32 (.tmp 3) rfl w.heap.size rfl 32 ds (0,0) _ RB10.out Tryz.underlying32 rfl DZ.out) ?_
     simp only [Act.put,pq1,pq2,pq3]
     refine qQa (by rfl) (qJW rfl _) ?_
     simp only [Act.put,pq1,pq2,pq3]
     refine qQa (by rfl) (by go_simp;rfl) ?_
     simp only [Act.put,pq1,pq2,pq3]
     refine qQf rfl rfl 32 (.tmp 6) (.tmp 65) rfl (w.heap.size+2) ds rfl rfl 32 RBZ G10.out.r6 DZ.out (by rw [←D4.out];rfl) DO.out ?_
     intro w11 hz11 hg11 _
     refine qQf rfl rfl 45 (.tmp 7) (.tmp 66) rfl (w.heap.size+3) RgZ rfl rfl 45 RgZ (qQd hg11 (by intro e;injection e with e;omega) G10.out.r7) qXG rfl qJ0 ?_
     intro w12 hz12 hg12 _
     go_wp2_with fail
     refine qWb (w.heap.size+2) (w.heap.size+3) 32 45 ds RgZ _ rfl rfl rfl rfl rfl (qQd hg12 (by intro e;injection e with e;omega) hz11) Tryz.underlying32 rfl DZ.out hz12 Tryz.underlying45 rfl qXG ?_
     obtain⟨h1,h2,h3,_⟩:=G10.out.done HA.out hg11 hg12
     rw[AE.out]
     exact⟨A2,n2,c2,none,0,0,by rw [DE.out];rfl,h1,G10.out.ln,G10.out.cap,h2,RdV.nil _ _,rfl,kQh _,(by rintro a ⟨⟩),h3⟩
   ·as_aux_lemma=>
     obtain rfl:ek=0:=by rw [EKE.out];rfl
     have WN:=Lh (show qZz y zs q (j+1)=(q2,some (xs++[x]))from WN.out)
     have XL:=Lh (show xs.length≤8 by
      have:∀(i:Nat) (q1:RBx) (l:List (List UInt8)),qZz y zs q i=(q1,some l)→l.length=i:=by
       intro i
       induction i with
       | zero=>intro q1 l h;cases h;rfl
       | succ i ih=>
        intro q1 l h
        rcases hq:qZz y zs q i with ⟨q0,_|l0⟩
        ·have:=(qV7 hq 1).symm.trans h;cases this
        ·rw [qX6 hq]at h
         injection h with h1 h2
         simp only [Option.map_eq_some_iff]at h2
         obtain⟨_,_,rfl⟩:=h2
         rw[kQj,ih _ _ hq];rfl
      have h1:=this j q1 xs WQ.out
      have:=J8.out
      omega)
     go_upto_region 16 with fail
     refine wp_region_list ?_
     simp only [kQf]
     refine qQa (by rfl) (by go_simp;rfl) ?_
     simp only [Act.put,pq1,pq2,pq3]
     refine qQa (by rfl) (qQq 43 (.tmp 68) rfl _ Tryz.underlying43 rfl rfl (qQg G10.out.ring 0 rfl)) ?_
     simp only [Act.put,pq1,pq2,pq3]
     refine qQa (by rfl) (by go_simp;rfl) ?_
     simp only [Act.put,pq1,pq2,pq3]
     refine qQs (by rfl) (fun K hK=>?_)
     go_simp
     generalize hB:Array.size (World.heap w10)=N5
     generalize hw:World.alloc w10 _=w11
     have B11:=Lh (show Below w10.heap.size w10 w11 by rw [←hw];exact qQh _ _)
     have R11:=Lh (show RdV w11 (some ⟨N5,0,none⟩) [.string (strB x)]from RdV.row (t:=9) (fr:=(0,0)) (by rw [←hw];exact qQk _ _ _ hB.symm))
     clear hB hw
     refine hK.out _ _ ?_
     clear hK K
     have OV:=Lh (G10.out.own.below B11.out)
     have LV:=Lh (show(SX xs).length≤8 by rw [SX,List.length_map];exact XL.out)
     refine qZp rfl SO.out (.tmp 69) (.tmp 71) rfl (M+1) v (SX xs) [.string (strB x)] (some ⟨N5,0,none⟩) 1 1 rfl rfl rfl OV.out R11.out (by intro u hu;simp only [List.mem_cons,List.mem_nil_iff,or_false]at hu;rw [hu];rfl) ?d3 (by have:=LV.out;omega) (by have:=LV.out;omega) ?_
     case d3=>have:=B11.out.size;have:=qQe G10.out.ring;omega
     intro v3 w12 ho hg hat
     have RM12:=Lh (show w12.heap[M]?=some (.cells #[v,.string ⟨#[]⟩] 45 (0,0))from qQd hg (fun e=>by have:=(G10.out.own.lt _ e.symm).1;omega) (qQb B11.out (qQe G10.out.ring) G10.out.ring))
     have O3:=Lh ho
     have G3:=Lh hg
     have AT3:=Lh hat
     obtain⟨A3,c3,rfl,_,_,_,_⟩:=ho.read
     clear ho hg hat
     simp only [Act.put,pq1,pq2,pq3]
     refine qQa (by rfl) (by go_simp;rfl) ?_
     simp only [Act.put,pq1,pq2,pq3]
     refine qQs (by rfl) (fun K hK=>?_)
     refine qY0 (.tmp 73) (.tmp 72) rfl M 0 _ _ _ rfl rfl RM12.out (by simp) ?_
     intro w13 hr13 hg13
     have G13:=Lh (G10.out.next HA.out B11.out O3.out G3.out AT3.out hr13 hg13)
     clear hr13 hg13
     refine hK.out _ _ ?_
     clear hK K
     simp only [Act.put,pq1,pq2,pq3]
     go_wp2_with fail
     go_roundw
     case rel=>exact⟨j+1,q2,A2,n2,c2,_,xs++[x],J8.out,by go_num,WN.out,G13.out⟩
     case measure=>have:=J8.out;simp [intOf];omega
  ·have hD:decide ((j:Int)<8)=false:=by simp;omega
   obtain rfl:j=8:=by have:=J.out;omega
   have H8:=Lh (qZN CK.out)
   obtain⟨T,hT⟩:∃T,T=dirL zs:=⟨_,rfl⟩
   have TE:=Lh hT
   have TL:=Lh (show T.length=273 by rw [hT];exact qXu HZ.out H8.out.1)
   obtain⟨r,hr⟩:∃r,r=qW0 q1 (dirE y zs):=⟨_,rfl⟩
   have RE:=Lh (show qX9 q1 y.o dirB T=r by rw [hr,hT];rfl)
   have WN:=Lh (show ringQ y zs q=(r.1,r.2.map fun d=>(xs,d)) by rw [qJZ WQ.out,hr])
   clear hT hr
   obtain⟨ek,hek⟩:∃ek:Int,ek=(if r.2.isSome then 0 else 15):=⟨_,rfl⟩
   have EKE:=Lh hek
   clear hek
   go_upto_region 17 with fail
   go_cut [17,18,19] (fun v17 v18 v19 wy=>∃M17 A' n' c',v17=.pointer (some ⟨M17,0,none⟩)∧v18=.string (strB (r.2.getD []))∧v19=.int .i64 ek∧wp.heap.size≤M17∧wy.heap[M17]?=some (.cells (RBC r.1.mode r.1.F r.1.u A' n' c') 32 (0,0))∧RdV wy A' (EC r.1.L)∧r.1.L.length=n'∧n'≤c'∧(∀a,A'=some a→(wp.heap.size≤a.block∧a.block<wy.heap.size)∨A1=some a)∧Below wp.heap.size wp wy)
   case first=>
    have S:=Lh (show Below wp.heap.size wp wp.drew from(Below.refl _ _).drew)
    refine qZ5 (fun W=>Below wp.heap.size wp W) (.q 0 (.q 1 (.q 2 (.q 3 (.two 4 (.two 5 (.q 6 (.q 7 (.q 8 (.q 9 (.t 10 (.t 11 (.q 12 (.q 13 .done)))))))) 10 (.t 5 (.q 6 (.q 7 (.q 8 (.q 9 (.t 11 (.q 12 (.q 13 .done))))))))) 10 (.t 4 (.t 5 (.q 6 (.q 7 (.q 8 (.q 9 (.t 11 (.q 12 (.q 13 .done)))))))))))))) (by kernel_rfl) (by kernel_rfl) (fun _ _ d _ _ h=>by cases d<;>exact h) ?_
    generalize World.drew wp=wv at *
    refine qQn rfl rfl S.out (fun W hW=>qQj 32 (.tmp 3) rfl w.heap.size rfl 32 cs (0,0) _ (qQb hW (qQe RB.out) RB.out) Tryz.underlying32 rfl CZ.out) ?_
    simp only [Act.put,pq1,pq2,pq3]
    refine qQn rfl rfl S.out (fun W hW=>by go_simp;rfl) ?_
    simp only [Act.put,pq1,pq2,pq3]
    refine qQn rfl rfl S.out (fun W hW=>qQq 9 (.tmp 76) rfl _ Tryz.underlying9 rfl rfl (qQg (qQb hW (qQe RK.out) RK.out) 2 (show ks[2]?=some (.string (strB y.o)) by rw [KE.out];rfl))) ?_
    simp only [Act.put,pq1,pq2,pq3]
    refine qQn rfl rfl S.out (fun W hW=>by go_simp;rfl) ?_
    simp only [Act.put,pq1,pq2,pq3]
    refine qZh ?_ ?_
    ·
     refine qQx rfl rfl (fun K hK=>?_)
     go_simp
     refine(rdir_any _ Am nm cm zs ZL.out ((HRM.out.keep G.out.bel).keep S.out) (by rw [←ZL.out];exact H8.out.1) (fun z h=>⟨HZ.out z h,H8.out.2 z h⟩)).mono ?_
     rw[←TE.out]
     rintro e wv ⟨rfl,hb⟩
     have S:=Lh (S.out.trans (hb.mono S.out.size))
     try have R:=Lh (qQb hb (qQe R.out) R.out)
     clear hb
     refine hK.out _ _ S.out ?_
     clear hK K
     refine qZh ?_ ?_
     ·
      refine qQx rfl rfl (fun K hK=>?_)
      go_simp
      rw[CE.out,show(⟨#[100,105,114]⟩:ByteArray)=strB dirB from rfl]
      refine(qVM q1 (by rw [BD.out.1];exact HM.out) A1 n1 c1 G.out.ln G.out.cap _ (G.out.rd.keep S.out) y.o dirB T HY.out.2 (by decide) (by rw [TL.out];omega) (by rw [BD.out.2.1];exact HF.out) (by have:=BD.out.2.2.1;have:=HU.out;omega) (by have:=G.out.ln;have:=BD.out.2.2.2;have:=HL.out;have:=HN.out;omega)).mono ?_
      rw[RE.out,←CE.out]
      rintro e wv ⟨A',n',c',rfl,hrd,hln,hcp,hof,hb⟩
      rw[←EKE.out]
      have RD:=Lh hrd
      have LN:=Lh hln
      have CP:=Lh hcp
      have OF:=Lh (show ∀a,A'=some a→(wp.heap.size≤a.block∧a.block<wv.heap.size)∨A1=some a from fun a ea=>(hof a ea).imp_left fun hh=>⟨kQk S.out.size hh.1,hh.2⟩)
      try have AM:=Lh (show ∀a,A'=some a→a.block≠M17 from fun a ea=>by
       have h1:=qQe R.out
       have h2:=MS.out
       rcases hof a ea with hh|hh
       ·have:=hh.1;omega
       ·have:=(G.out.off a hh).1;omega)
      have S:=Lh (S.out.trans (hb.mono S.out.size))
      try have R:=Lh (qQb hb (qQe R.out) R.out)
      clear hrd hln hcp hof hb
      refine hK.out _ _ S.out ?_
      clear hK K
      refine qQn rfl rfl S.out (fun W hW=>by go_simp;rfl) ?_
      simp only [Act.put,pq1,pq2,pq3]
      refine qQn rfl rfl S.out (fun W hW=>by go_simp;rfl) ?_
      simp only [Act.put,pq1,pq2,pq3]
      refine qQn rfl rfl S.out (fun W hW=>by go_simp;rfl) ?_
      simp only [Act.put,pq1,pq2,pq3]
      refine qQn rfl rfl S.out (fun W hW=>by go_simp;rfl) ?_
      simp only [Act.put,pq1,pq2,pq3]
      refine qQx rfl rfl (fun K hK=>?_)
      go_simp
      generalize hM:Array.size (World.heap wv)=M17
      generalize hwn:World.alloc wv _=wn
      have MS:=Lh (show wp.heap.size≤M17 by rw [←hM];exact S.out.size)
      have R:=Lh (show wn.heap[M17]?=some (.cells RBZ 32 (0,0)) by rw [←hwn];exact qQk _ _ _ hM.symm)
      try have RD:=Lh (RD.out.keep (show Below _ _ wn by rw [←hwn];exact qQh _ _))
      try have AM:=Lh (show ∀a,A'=some a→a.block≠M17 from fun a ea=>by
       rcases OF.out a ea with hh|hh
       ·have:=hh.2;omega
       ·have:=(G.out.off a hh).1;have:=MS.out;omega)
      try have OF:=Lh (show ∀a,A'=some a→(wp.heap.size≤a.block∧a.block<wn.heap.size)∨A1=some a from fun a ea=>(OF.out a ea).imp_left fun hh=>⟨hh.1,kQb hh.2 (by rw [←hwn];exact(qQh _ _).size)⟩)
      have S:=Lh (show Below wp.heap.size wp wn by rw [←hwn];exact S.out.alloc S.out.size _)
      clear hM hwn
      refine hK.out _ _ S.out ?_
      clear hK K
      refine qQx rfl rfl (fun K hK=>?_)
      obtain⟨hs,hhs⟩:∃hs,hs=RBC r.1.mode r.1.F r.1.u A' n' c':=⟨_,rfl⟩
      have HZZ:=Lh (show(Tryz.prog.info? 32).map (·.size)=some hs.size by rw [hhs];exact qQK)
      have HO:=Lh (show hs.all (·.oneCell')=true by rw [hhs];exact qQ3 _ _ _ _ _ _)
      have HS:=Lh (show hs.size=4 by rw [hhs];rfl)
      have HE:=Lh hhs
      rw[←hhs]
      clear hhs
      refine qQN 32 (.tmp 17) (.tmp 81) rfl M17 hs rfl rfl _ _ R.out HZZ.out (by rw [HS.out];rfl) HO.out ?_
      intro wz hz9 hg9 _
      have R:=Lh hz9
      have RD:=Lh (RD.out.grown hg9 (fun g' e a ea=>by have e:M17=g':=Option.some.inj e;have:=AM.out a ea;omega))
      have OF:=Lh (show ∀a,A'=some a→(wp.heap.size≤a.block∧a.block<wz.heap.size)∨A1=some a from fun a ea=>(OF.out a ea).imp_left fun hh=>⟨hh.1,kQb hh.2 hg9.size⟩)
      have S:=Lh (S.out.trans (qQi hg9 S.out.size (fun g' e=>by have e:M17=g':=Option.some.inj e;have:=MS.out;omega)))
      clear hz9 hg9
      refine hK.out _ _ S.out ?_
      clear hK K
      refine qQn rfl rfl S.out (fun W hW=>by go_simp;rfl) ?_
      simp only [Act.put,pq1,pq2,pq3]
      refine qQn rfl rfl S.out (fun W hW=>by go_simp;rfl) ?_
      simp only [Act.put,pq1,pq2,pq3]
      refine qQ8 ?_
      go_wp2_with fail
      go_meet
      exact⟨M17,A',n',c',rfl,rfl,rfl,MS.out,by rw [←HE.out];exact R.out,RD.out,LN.out,CP.out,OF.out,S.out⟩
     ·
      refine qQx rfl rfl (fun K hK=>?_)
      go_simp
      generalize hM:Array.size (World.heap wv)=M17
      generalize hwn:World.alloc wv _=wn
      have MS:=Lh (show wp.heap.size≤M17 by rw [←hM];exact S.out.size)
      have R:=Lh (show wn.heap[M17]?=some (.cells RBZ 32 (0,0)) by rw [←hwn];exact qQk _ _ _ hM.symm)
      try have RD:=Lh (RD.out.keep (show Below _ _ wn by rw [←hwn];exact qQh _ _))
      try have AM:=Lh (show ∀a,A'=some a→a.block≠M17 from fun a ea=>by
       rcases OF.out a ea with hh|hh
       ·have:=hh.2;omega
       ·have:=(G.out.off a hh).1;have:=MS.out;omega)
      try have OF:=Lh (show ∀a,A'=some a→(wp.heap.size≤a.block∧a.block<wn.heap.size)∨A1=some a from fun a ea=>(OF.out a ea).imp_left fun hh=>⟨hh.1,kQb hh.2 (by rw [←hwn];exact(qQh _ _).size)⟩)
      have S:=Lh (show Below wp.heap.size wp wn by rw [←hwn];exact S.out.alloc S.out.size _)
      clear hM hwn
      refine hK.out _ _ S.out ?_
      clear hK K
      refine qQx rfl rfl (fun K hK=>?_)
      go_simp
      rw[CE.out,show(⟨#[100,105,114]⟩:ByteArray)=strB dirB from rfl]
      refine(qVM q1 (by rw [BD.out.1];exact HM.out) A1 n1 c1 G.out.ln G.out.cap _ (G.out.rd.keep S.out) y.o dirB T HY.out.2 (by decide) (by rw [TL.out];omega) (by rw [BD.out.2.1];exact HF.out) (by have:=BD.out.2.2.1;have:=HU.out;omega) (by have:=G.out.ln;have:=BD.out.2.2.2;have:=HL.out;have:=HN.out;omega)).mono ?_
      rw[RE.out,←CE.out]
      rintro e wv ⟨A',n',c',rfl,hrd,hln,hcp,hof,hb⟩
      rw[←EKE.out]
      have RD:=Lh hrd
      have LN:=Lh hln
      have CP:=Lh hcp
      have OF:=Lh (show ∀a,A'=some a→(wp.heap.size≤a.block∧a.block<wv.heap.size)∨A1=some a from fun a ea=>(hof a ea).imp_left fun hh=>⟨kQk S.out.size hh.1,hh.2⟩)
      try have AM:=Lh (show ∀a,A'=some a→a.block≠M17 from fun a ea=>by
       have h1:=qQe R.out
       have h2:=MS.out
       rcases hof a ea with hh|hh
       ·have:=hh.1;omega
       ·have:=(G.out.off a hh).1;omega)
      have S:=Lh (S.out.trans (hb.mono S.out.size))
      try have R:=Lh (qQb hb (qQe R.out) R.out)
      clear hrd hln hcp hof hb
      refine hK.out _ _ S.out ?_
      clear hK K
      refine qQn rfl rfl S.out (fun W hW=>by go_simp;rfl) ?_
      simp only [Act.put,pq1,pq2,pq3]
      refine qQn rfl rfl S.out (fun W hW=>by go_simp;rfl) ?_
      simp only [Act.put,pq1,pq2,pq3]
      refine qQn rfl rfl S.out (fun W hW=>by go_simp;rfl) ?_
      simp only [Act.put,pq1,pq2,pq3]
      refine qQn rfl rfl S.out (fun W hW=>by go_simp;rfl) ?_
      simp only [Act.put,pq1,pq2,pq3]
      refine qQx rfl rfl (fun K hK=>?_)
      obtain⟨hs,hhs⟩:∃hs,hs=RBC r.1.mode r.1.F r.1.u A' n' c':=⟨_,rfl⟩
      have HZZ:=Lh (show(Tryz.prog.info? 32).map (·.size)=some hs.size by rw [hhs];exact qQK)
      have HO:=Lh (show hs.all (·.oneCell')=true by rw [hhs];exact qQ3 _ _ _ _ _ _)
      have HS:=Lh (show hs.size=4 by rw [hhs];rfl)
      have HE:=Lh hhs
      rw[←hhs]
      clear hhs
      refine qQN 32 (.tmp 17) (.tmp 81) rfl M17 hs rfl rfl _ _ R.out HZZ.out (by rw [HS.out];rfl) HO.out ?_
      intro wz hz9 hg9 _
      have R:=Lh hz9
      have RD:=Lh (RD.out.grown hg9 (fun g' e a ea=>by have e:M17=g':=Option.some.inj e;have:=AM.out a ea;omega))
      have OF:=Lh (show ∀a,A'=some a→(wp.heap.size≤a.block∧a.block<wz.heap.size)∨A1=some a from fun a ea=>(OF.out a ea).imp_left fun hh=>⟨hh.1,kQb hh.2 hg9.size⟩)
      have S:=Lh (S.out.trans (qQi hg9 S.out.size (fun g' e=>by have e:M17=g':=Option.some.inj e;have:=MS.out;omega)))
      clear hz9 hg9
      refine hK.out _ _ S.out ?_
      clear hK K
      refine qQn rfl rfl S.out (fun W hW=>by go_simp;rfl) ?_
      simp only [Act.put,pq1,pq2,pq3]
      refine qQn rfl rfl S.out (fun W hW=>by go_simp;rfl) ?_
      simp only [Act.put,pq1,pq2,pq3]
      refine qQ8 ?_
      go_wp2_with fail
      go_meet
      exact⟨M17,A',n',c',rfl,rfl,rfl,MS.out,by rw [←HE.out];exact R.out,RD.out,LN.out,CP.out,OF.out,S.out⟩
    ·
     refine qQx rfl rfl (fun K hK=>?_)
     go_simp
     generalize hM:Array.size (World.heap wv)=M17
     generalize hwn:World.alloc wv _=wn
     have MS:=Lh (show wp.heap.size≤M17 by rw [←hM];exact S.out.size)
     have R:=Lh (show wn.heap[M17]?=some (.cells RBZ 32 (0,0)) by rw [←hwn];exact qQk _ _ _ hM.symm)
     try have RD:=Lh (RD.out.keep (show Below _ _ wn by rw [←hwn];exact qQh _ _))
     try have AM:=Lh (show ∀a,A'=some a→a.block≠M17 from fun a ea=>by
      rcases OF.out a ea with hh|hh
      ·have:=hh.2;omega
      ·have:=(G.out.off a hh).1;have:=MS.out;omega)
     try have OF:=Lh (show ∀a,A'=some a→(wp.heap.size≤a.block∧a.block<wn.heap.size)∨A1=some a from fun a ea=>(OF.out a ea).imp_left fun hh=>⟨hh.1,kQb hh.2 (by rw [←hwn];exact(qQh _ _).size)⟩)
     have S:=Lh (show Below wp.heap.size wp wn by rw [←hwn];exact S.out.alloc S.out.size _)
     clear hM hwn
     refine hK.out _ _ S.out ?_
     clear hK K
     refine qQx rfl rfl (fun K hK=>?_)
     go_simp
     refine(rdir_any _ Am nm cm zs ZL.out ((HRM.out.keep G.out.bel).keep S.out) (by rw [←ZL.out];exact H8.out.1) (fun z h=>⟨HZ.out z h,H8.out.2 z h⟩)).mono ?_
     rw[←TE.out]
     rintro e wv ⟨rfl,hb⟩
     have S:=Lh (S.out.trans (hb.mono S.out.size))
     try have R:=Lh (qQb hb (qQe R.out) R.out)
     clear hb
     refine hK.out _ _ S.out ?_
     clear hK K
     refine qQx rfl rfl (fun K hK=>?_)
     go_simp
     rw[CE.out,show(⟨#[100,105,114]⟩:ByteArray)=strB dirB from rfl]
     refine(qVM q1 (by rw [BD.out.1];exact HM.out) A1 n1 c1 G.out.ln G.out.cap _ (G.out.rd.keep S.out) y.o dirB T HY.out.2 (by decide) (by rw [TL.out];omega) (by rw [BD.out.2.1];exact HF.out) (by have:=BD.out.2.2.1;have:=HU.out;omega) (by have:=G.out.ln;have:=BD.out.2.2.2;have:=HL.out;have:=HN.out;omega)).mono ?_
     rw[RE.out,←CE.out]
     rintro e wv ⟨A',n',c',rfl,hrd,hln,hcp,hof,hb⟩
     rw[←EKE.out]
     have RD:=Lh hrd
     have LN:=Lh hln
     have CP:=Lh hcp
     have OF:=Lh (show ∀a,A'=some a→(wp.heap.size≤a.block∧a.block<wv.heap.size)∨A1=some a from fun a ea=>(hof a ea).imp_left fun hh=>⟨kQk S.out.size hh.1,hh.2⟩)
     try have AM:=Lh (show ∀a,A'=some a→a.block≠M17 from fun a ea=>by
      have h1:=qQe R.out
      have h2:=MS.out
      rcases hof a ea with hh|hh
      ·have:=hh.1;omega
      ·have:=(G.out.off a hh).1;omega)
     have S:=Lh (S.out.trans (hb.mono S.out.size))
     try have R:=Lh (qQb hb (qQe R.out) R.out)
     clear hrd hln hcp hof hb
     refine hK.out _ _ S.out ?_
     clear hK K
     refine qQn rfl rfl S.out (fun W hW=>by go_simp;rfl) ?_
     simp only [Act.put,pq1,pq2,pq3]
     refine qQn rfl rfl S.out (fun W hW=>by go_simp;rfl) ?_
     simp only [Act.put,pq1,pq2,pq3]
     refine qQn rfl rfl S.out (fun W hW=>by go_simp;rfl) ?_
     simp only [Act.put,pq1,pq2,pq3]
     refine qQn rfl rfl S.out (fun W hW=>by go_simp;rfl) ?_
     simp only [Act.put,pq1,pq2,pq3]
     refine qQx rfl rfl (fun K hK=>?_)
     obtain⟨hs,hhs⟩:∃hs,hs=RBC r.1.mode r.1.F r.1.u A' n' c':=⟨_,rfl⟩
     have HZZ:=Lh (show(Tryz.prog.info? 32).map (·.size)=some hs.size by rw [hhs];exact qQK)
     have HO:=Lh (show hs.all (·.oneCell')=true by rw [hhs];exact qQ3 _ _ _ _ _ _)
     have HS:=Lh (show hs.size=4 by rw [hhs];rfl)
     have HE:=Lh hhs
     rw[←hhs]
     clear hhs
     refine qQN 32 (.tmp 17) (.tmp 81) rfl M17 hs rfl rfl _ _ R.out HZZ.out (by rw [HS.out];rfl) HO.out ?_
     intro wz hz9 hg9 _
     have R:=Lh hz9
     have RD:=Lh (RD.out.grown hg9 (fun g' e a ea=>by have e:M17=g':=Option.some.inj e;have:=AM.out a ea;omega))
     have OF:=Lh (show ∀a,A'=some a→(wp.heap.size≤a.block∧a.block<wz.heap.size)∨A1=some a from fun a ea=>(OF.out a ea).imp_left fun hh=>⟨hh.1,kQb hh.2 hg9.size⟩)
     have S:=Lh (S.out.trans (qQi hg9 S.out.size (fun g' e=>by have e:M17=g':=Option.some.inj e;have:=MS.out;omega)))
     clear hz9 hg9
     refine hK.out _ _ S.out ?_
     clear hK K
     refine qQn rfl rfl S.out (fun W hW=>by go_simp;rfl) ?_
     simp only [Act.put,pq1,pq2,pq3]
     refine qQn rfl rfl S.out (fun W hW=>by go_simp;rfl) ?_
     simp only [Act.put,pq1,pq2,pq3]
     refine qQ8 ?_
     go_wp2_with fail
     go_meet
     exact⟨M17,A',n',c',rfl,rfl,rfl,MS.out,by rw [←HE.out];exact R.out,RD.out,LN.out,CP.out,OF.out,S.out⟩
   case rest=>
   obtain⟨M17,A',n',c',rfl,rfl,rfl,h17,hr17,hrd,hln,hcp,hof,hbc⟩:=hcut
   have FAR:=Lh (show ∀a,A'=some a→a.block<wc.heap.size∧(A=some a∨M<a.block)from fun a ea=>by
    rcases hof a ea with hh|hh
    ·have h1:=qQe G.out.ring;exact⟨hh.2,.inr (by omega)⟩
    ·exact⟨kQb (G.out.off a hh).1 hbc.size,(G.out.off a hh).2.1⟩)
   have M7:=Lh (show M<M17 by have:=qQe G.out.ring;omega)
   have G:=Lh (G.out.keep hbc)
   have RD:=Lh hrd
   have LN:=Lh hln
   have CP:=Lh hcp
   obtain⟨ds,hds⟩:∃ds,ds=RBC r.1.mode r.1.F r.1.u A' n' c':=⟨_,rfl⟩
   have DE:=Lh hds
   have DZ:=Lh (show(Tryz.prog.info? 32).map (·.size)=some ds.size by rw [hds];exact qQK)
   have DO:=Lh (show ds.all (·.oneCell')=true by rw [hds];exact qQ3 _ _ _ _ _ _)
   have D4:=Lh (show RBZ.size=ds.size by rw [hds];rfl)
   have R17:=Lh (show wc.heap[M17]?=some (.cells ds 32 (0,0)) by rw [hds];exact hr17)
   clear h17 hr17 hrd hln hcp hof hbc hds RB RK CE CZ CO C4
   obtain⟨q2,rx⟩:=r
   have RD:=Lh (show RdV wc A' (EC q2.L)from RD.out)
   rcases rx with _|d
   ·as_aux_lemma=>
     obtain rfl:ek=15:=by rw [EKE.out];rfl
     have AE:=Lh (show qZ3 y zs q=(q2,none,15) by rw [qZ3,if_pos CK.out,WN.out];rfl)
     have DE:=Lh (show ds=RBC q2.mode q2.F q2.u A' n' c' from DE.out)
     go_upto_region 19 with fail
     refine wp_region_list ?_
     simp only [kQf]
     refine qQa (by rfl) (qQj 32 (.tmp 17) rfl M17 rfl 32 ds (0,0) _ R17.out Tryz.underlying32 rfl DZ.out) ?_
     simp only [Act.put,pq1,pq2,pq3]
     refine qQa (by rfl) (qJW rfl _) ?_
     simp only [Act.put,pq1,pq2,pq3]
     refine qQa (by rfl) (by go_simp;rfl) ?_
     simp only [Act.put,pq1,pq2,pq3]
     refine qQf rfl rfl 32 (.tmp 6) (.tmp 86) rfl (w.heap.size+2) ds rfl rfl 32 RBZ G.out.r6 DZ.out D4.out DO.out ?_
     intro w11 hz11 hg11 _
     refine qQf rfl rfl 45 (.tmp 7) (.tmp 87) rfl (w.heap.size+3) RgZ rfl rfl 45 RgZ (qQd hg11 (by intro e;injection e with e;omega) G.out.r7) qXG rfl qJ0 ?_
     intro w12 hz12 hg12 _
     go_wp2_with fail
     refine qWb (w.heap.size+2) (w.heap.size+3) 32 45 ds RgZ _ rfl rfl rfl rfl rfl (qQd hg12 (by intro e;injection e with e;omega) hz11) Tryz.underlying32 rfl DZ.out hz12 Tryz.underlying45 rfl qXG ?_
     obtain⟨_,_,h3,_⟩:=G.out.done HA.out hg11 hg12
     rw[AE.out]
     refine⟨A',n',c',none,0,0,by rw [DE.out];rfl,(RD.out.grown hg11 ?_).grown hg12 ?_,LN.out,CP.out,fun a e=>(FAR.out a e).2.symm.imp_left fun h1=>⟨by have:=G.out.m;omega,kQb (FAR.out a e).1 (kQk hg11.size hg12.size)⟩,RdV.nil _ _,rfl,kQh _,(by rintro a ⟨⟩),h3⟩ <;>
     ·rintro g ⟨⟩ a ea
      have:=G.out.m
      rcases (FAR.out a ea).2 with h1|h1
      ·have:=HA.out a h1;omega
      ·omega
   ·as_aux_lemma=>
     obtain rfl:ek=0:=by rw [EKE.out];rfl
     have AE:=Lh (show qZ3 y zs q=(q2,some (xs,d),0) by rw [qZ3,if_pos CK.out,WN.out];rfl)
     have DE:=Lh (show ds=RBC q2.mode q2.F q2.u A' n' c' from DE.out)
     go_upto_region 20 with fail
     refine wp_region_list ?_
     simp only [kQf]
     refine qQa (by rfl) (by go_simp;rfl) ?_
     simp only [Act.put,pq1,pq2,pq3]
     refine qQa (by rfl) (by go_simp;rfl) ?_
     simp only [Act.put,pq1,pq2,pq3]
     refine qQs (by rfl) (fun K hK=>?_)
     refine qVf (.tmp 90) (.tmp 89) rfl M 1 _ rfl rfl G.out.ring (by simp) ?_
     intro w11 hz11 hg11
     have RM:=Lh (show w11.heap[M]?=some (.cells #[v,.string (strB d)] 45 (0,0))from hz11)
     have G11:=Lh hg11
     clear hz11 hg11
     refine hK.out _ _ ?_
     clear hK K
     simp only [Act.put,pq1,pq2,pq3]
     have D:=Lh (show Below w11.heap.size w11 w11.drew from(Below.refl _ _).drew)
     obtain⟨B,kb,rfl,_,_,_,_⟩:=G.out.own.read
     obtain⟨rs,hrs⟩:∃rs:Array Value,rs=#[.slice B (SX xs).length kb,.string (strB d)]:=⟨_,rfl⟩
     have RSE:=Lh hrs
     have RZ:=Lh (show(Tryz.prog.info? 45).map (·.size)=some rs.size by rw [hrs];exact qZR)
     have RO:=Lh (show rs.all (·.oneCell')=true by rw [hrs];simp [Value.oneCell'])
     have RS2:=Lh (show RgZ.size=rs.size by rw [hrs];rfl)
     have S:=Lh (show w11.drew.heap[M17]?=some (.cells ds 32 (0,0))∧w11.drew.heap[M]?=some (.cells rs 45 (0,0))from⟨show w11.heap[M17]?=_ from qQd G11.out (show some M17≠some M by intro e;injection e with e;have:=M7.out;omega) R17.out,by rw [hrs];exact RM.out⟩)
     have X6:=Lh (show w11.drew.heap[w.heap.size+2]?=some (.cells RBZ 32 (0,0))from show w11.heap[w.heap.size+2]?=_ from qQd G11.out (show some (w.heap.size+2)≠some M by intro e;injection e with e;have:=G.out.m;omega) G.out.r6)
     have X7:=Lh (show w11.drew.heap[w.heap.size+3]?=some (.cells RgZ 45 (0,0))from show w11.heap[w.heap.size+3]?=_ from qQd G11.out (show some (w.heap.size+3)≠some M by intro e;injection e with e;have:=G.out.m;omega) G.out.r7)
     have XR:=Lh (show RdV w11.drew A' (EC q2.L)from(show RdV w11 A' (EC q2.L)from RD.out.grown G11.out (by
      rintro g ⟨⟩ a ea
      have:=G.out.m
      rcases (FAR.out a ea).2 with h1|h1
      ·have:=HA.out a h1;omega
      ·omega)).keep D.out)
     have XO:=Lh (show OwnV w11.drew (M+1) 9 (.slice B (SX xs).length kb) (SX xs)from(show OwnV w11 (M+1) 9 (.slice B (SX xs).length kb) (SX xs)from G.out.own.grown G11.out (.inr fun e=>by have:=G.out.own.lt _ e;omega)).drew)
     have XB:=Lh (show Below w.heap.size w w11.drew from(show Below w.heap.size w w11 from G.out.bel.trans (qQi G11.out G.out.bel.size (by rintro g ⟨⟩;have:=G.out.m;omega))).drew)
     have XF:=Lh (show ∀a,A'=some a→a.block<w11.drew.heap.size∧(A=some a∨M<a.block)from fun a e=>⟨kQb (FAR.out a e).1 G11.out.size,(FAR.out a e).2⟩)
     clear hrs RM D
     go_upto_region 21 with fail
     refine qQu (fun W=>W.heap[M17]?=some (.cells ds 32 (0,0))∧W.heap[M]?=some (.cells rs 45 (0,0))) [(true,0),(true,1),(false,2),(false,3),(true,4)] (by kernel_rfl) (by kernel_rfl) (fun _ _ d _ _ h=>by cases d<;>exact h) ?_
     simp only [kQl,kQm,kQd,kQg,kQe,kQo]
     generalize World.drew w11=wd at *
     refine qQc (by rfl) S.out (fun W hW=>qQj 32 (.tmp 17) rfl M17 rfl 32 ds (0,0) _ hW.1 Tryz.underlying32 rfl DZ.out) ?_
     simp only [Act.put,pq1,pq2,pq3]
     refine qQc (by rfl) S.out (fun W hW=>qQj 45 (.tmp 10) rfl M rfl 45 rs (0,0) _ hW.2 Tryz.underlying45 rfl RZ.out) ?_
     simp only [Act.put,pq1,pq2,pq3]
     refine qQE (by rfl) (fun K hK=>?_)
     refine qQN 32 (.tmp 6) (.tmp 91) rfl (w.heap.size+2) ds rfl rfl _ _ X6.out DZ.out D4.out DO.out ?_
     intro wy hz9 hg9 _
     have S:=Lh (⟨qQd hg9 (by intro e;injection e with e;have:=G.out.m;have:=M7.out;omega) S.out.1,qQd hg9 (by intro e;injection e with e;have:=G.out.m;omega) S.out.2⟩:_∧_)
     have X6:=Lh hz9
     have G9:=Lh hg9
     clear hz9 hg9
     refine hK.out _ _ S.out ?_
     clear hK K
     refine qQE (by rfl) (fun K hK=>?_)
     refine qQN 45 (.tmp 7) (.tmp 92) rfl (w.heap.size+3) rs rfl rfl _ _ (qQd G9.out (by intro e;injection e with e;omega) X7.out) RZ.out RS2.out RO.out ?_
     intro wz hz8 hg8 _
     have S:=Lh (⟨qQd hg8 (by intro e;injection e with e;have:=G.out.m;have:=M7.out;omega) S.out.1,qQd hg8 (by intro e;injection e with e;have:=G.out.m;omega) S.out.2⟩:_∧_)
     have X6:=Lh (qQd hg8 (by intro e;injection e with e;omega) X6.out)
     have X7:=Lh hz8
     have G8:=Lh hg8
     clear hz8 hg8
     refine hK.out _ _ S.out ?_
     clear hK K
     refine qQc (by rfl) S.out (fun W hW=>by go_simp;rfl) ?_
     simp only [Act.put,pq1,pq2,pq3]
     refine qQG ?_
     go_wp2_with fail
     refine qWb (w.heap.size+2) (w.heap.size+3) 32 45 ds rs _ rfl rfl rfl rfl rfl X6.out Tryz.underlying32 rfl DZ.out X7.out Tryz.underlying45 rfl RZ.out ?_
     have hm:=G.out.m
     have OV:=(XO.out.grown G9.out (.inr fun e=>by have:=XO.out.lt _ e;omega)).grown G8.out (.inr fun e=>by have:=XO.out.lt _ e;omega)
     obtain⟨B',kb',e1,h1,h2,_,h3⟩:=OV.read
     injection e1 with e1 e2 e3
     subst e1 e3
     rw[AE.out]
     refine⟨A',n',c',B,(SX xs).length,kb,by rw [DE.out,RSE.out];rfl,(XR.out.grown G9.out ?_).grown G8.out ?_,LN.out,CP.out,fun a e=>(XF.out a e).2.symm.imp_left fun h1=>⟨by omega,kQb (XF.out a e).1 (kQk G9.out.size G8.out.size)⟩,h1,by rw [SX,List.length_map];rfl,h2,fun a e=>⟨by have:=(h3 a e).1;omega,(h3 a e).2⟩,
      (XB.out.trans (qQi G9.out XB.out.size (by rintro g ⟨⟩;omega))).trans (qQi G8.out (kQk XB.out.size G9.out.size) (by rintro g ⟨⟩;omega))⟩ <;>
     ·rintro g ⟨⟩ a ea
      rcases (XF.out a ea).2 with h1|h1
      ·have:=HA.out a h1;omega
      ·omega
theorem qJ1 {P:Program} {fn:Func} {R:Ending→World→Prop} {a:Act} {w:World} (g g2 g3:Nat) (T T2 T3:TypeId) (cells cells2 cells3:Array Value) (v:Value) {p p2 p3 u:Tmp} (h:fn.results=#[.cell p T,.cell p2 T2,.cell p3 T3,.tmp u])
  (hp:a.tmps.getD p undef=.pointer (some ⟨g,0,none⟩)) (hp2:a.tmps.getD p2 undef=.pointer (some ⟨g2,0,none⟩)) (hp3:a.tmps.getD p3 undef=.pointer (some ⟨g3,0,none⟩)) (hu:a.tmps.getD u undef=v) (hd:a.defers=[])
  (hg:w.heap[g]?=some (.cells cells T (0,0))) {d:TypeDesc} (ht:P.underlying T=some d) (hr:d.isRow=true) (hi:(P.info? T).map (·.size)=some cells.size)
  (hg2:w.heap[g2]?=some (.cells cells2 T2 (0,0))) {d2:TypeDesc} (ht2:P.underlying T2=some d2) (hr2:d2.isRow=true) (hi2:(P.info? T2).map (·.size)=some cells2.size)
  (hg3:w.heap[g3]?=some (.cells cells3 T3 (0,0))) {d3:TypeDesc} (ht3:P.underlying T3=some d3) (hr3:d3.isRow=true) (hi3:(P.info? T3).map (·.size)=some cells3.size)
  (hR:R (.returned (.tuple #[.agg cells,.agg cells2,.agg cells3,v])) w):bodyPost P fn R .ret a w:=by
 refine bodyPost_ret ?_ hd hR
 have h1:=qX5 hg ht hr hi
 have h2:=qX5 hg2 ht2 hr2 hi2
 have h3:=qX5 hg3 ht3 hr3 hi3
 simp only [asAddr,Sem.run_pure,Result.andThen_ok]at h1 h2 h3
 simp only [results,h]
 simp only [Array.getD_eq_getD_getElem?]at hp hp2 hp3 hu
 simp [Sem.run_bind,Result.andThen,hp,hp2,hp3,hu,asAddr,h1,h2,h3]
theorem run_rkZ {o:Oper} {a:Act} (ho:o.op=.build 47 #[]) (W:World):(execOp a.eval o).run Tryz.prog W=.ok (.value (.agg (RowQ kysE))) W:=by
 have h2:∀W:World,(Instr.build 47 #[]).run Tryz.prog W=.ok (.agg (RowQ kysE)) W:=by
  intro W
  kernel_rfl
 unfold execOp
 have h3:=h2 W
 simp only [ho,kQs,List.map_nil,Sem.run_bind,h3,Result.andThen_ok,Sem.run_pure]
theorem run_rkN {o:Oper} {a:Act} (x:Operand) (ho:o.op=.build 47 #[(0,x),(3,.const (.bool true))]) (e:UInt64) (hx:a.eval x=.int .u64 (e.toNat:Int)) (W:World):(execOp a.eval o).run Tryz.prog W=.ok (.value (.agg (RowQ ⟨e,[],[],true⟩))) W:=by
 have h2:∀(z:Int) (W:World),(Instr.build 47 #[(0,.int .u64 z),(3,.bool true)]).run Tryz.prog W=.ok (.agg #[.int .u64 z,.string ⟨#[]⟩,.string ⟨#[]⟩,.bool true]) W:=by
  intro z W
  kernel_rfl
 unfold execOp
 have h3:=h2 (e.toNat:Int) W
 have h4:a.eval (.const (.bool true))=.bool true:=rfl
 simp only [ho,kQs,kQw,List.map_nil,hx,h4,Sem.run_bind,h3,Result.andThen_ok,Sem.run_pure]
 rfl
def RMkP (w:World) (A0:Option Addr) (y:Kys) (r:RBx×Option (List (List UInt8)×List UInt8)×Int) (e:Ending) (w':World):Prop:=
 ∃A n c B m k,e=.returned (.tuple #[.agg (RBC r.1.mode r.1.F r.1.u A n c),.agg #[.slice B m k,.string (strB (r.2.1.getD ([],[])).2)],.agg (RowQ (if r.2.2=0 then y else kysE)),.int .i64 r.2.2])∧RgOut w A0 r A n c B m k w'
theorem RgOut.grown {w W W':World} {A0:Option Addr} {r:RBx×Option (List (List UInt8)×List UInt8)×Int} {A:Option Addr} {n c:Nat} {B:Option Addr} {m k g:Nat} (h:RgOut w A0 r A n c B m k W) (hg:W.grownBy W' (some g)) (hw:w.heap.size≤g) (hA:∀a,A=some a→a.block≠g) (hB:∀a,B=some a→a.block≠g):RgOut w A0 r A n c B m k W':=
 ⟨h.rd.grown hg (by rintro i ⟨⟩ a e;exact hA a e),h.ln,h.cap,fun a e=>(h.off a e).imp_left fun x=>⟨x.1,kQb x.2 hg.size⟩,h.xs.grown hg (by rintro i ⟨⟩ a e;exact hB a e),h.xl,h.xc,fun a e=>⟨(h.xo a e).1,kQb (h.xo a e).2 hg.size⟩,qQo h.bel hg hw⟩
theorem RgOut.keep {w W W':World} {A0:Option Addr} {r:RBx×Option (List (List UInt8)×List UInt8)×Int} {A:Option Addr} {n c:Nat} {B:Option Addr} {m k:Nat} (h:RgOut w A0 r A n c B m k W) (hb:Below W.heap.size W W'):RgOut w A0 r A n c B m k W':=
 ⟨h.rd.keep hb,h.ln,h.cap,fun a e=>(h.off a e).imp_left fun x=>⟨x.1,kQb x.2 hb.size⟩,h.xs.keep hb,h.xl,h.xc,fun a e=>⟨(h.xo a e).1,kQb (h.xo a e).2 hb.size⟩,h.bel.trans (hb.mono h.bel.size)⟩
theorem RgOut.low {w w0 W:World} {A0:Option Addr} {r:RBx×Option (List (List UInt8)×List UInt8)×Int} {A:Option Addr} {n c:Nat} {B:Option Addr} {m k:Nat} (h:RgOut w A0 r A n c B m k W) (hb:Below w0.heap.size w0 w):RgOut w0 A0 r A n c B m k W:=
 ⟨h.rd,h.ln,h.cap,fun a e=>(h.off a e).imp_left fun x=>⟨kQk hb.size x.1,x.2⟩,h.xs,h.xl,h.xc,fun a e=>⟨kQk hb.size (h.xo a e).1,(h.xo a e).2⟩,hb.trans (h.bel.mono hb.size)⟩
theorem ok_keysQ (q:RBx) (ep:UInt64):OkK (qJC q ep):=⟨qQy _ _ _,qQy _ _ _⟩
theorem qXa (w:World) (q:RBx) (hm:q.mode=0∨q.mode=1) (A:Option Addr) (n c:Nat) (hn:q.L.length=n) (hc:n≤c) (hR:RdV w A (EC q.L)) (hA:∀a,A=some a→a.block<w.heap.size) (ep:UInt64)
  (Am:Option Addr) (nm cm:Nat) (zs:List Mem) (hzs:zs.length=nm) (RM:RdV w Am (EM zs)) (hz:∀z∈zs,OkM z) (h1:nm≤1000) (hF:q.F.length≤2900) (hu:q.u≤600000) (hL:n≤9000) :
  Calls Tryz.prog 8 #[.agg (RBC q.mode q.F q.u A n c),.int .u64 (ep.toNat:Int),.slice Am nm cm] w (RMkP w A (qJC q ep) (qJ6 ep zs q)):=by
 have HM:=Lh hm
 have HN:=Lh hn
 have HC:=Lh hc
 have HR:=Lh hR
 have HA:=Lh hA
 have ZL:=Lh hzs
 have HRM:=Lh RM
 have HZ:=Lh hz
 have HF:=Lh hF
 have HU:=Lh hu
 have HL:=Lh hL
 have N1:=Lh h1
 obtain⟨cs,hcs⟩:∃cs,cs=RBC q.mode q.F q.u A n c:=⟨_,rfl⟩
 rw[←hcs]
 have CE0:=Lh hcs
 have CZ:=Lh (show(Tryz.prog.info? 32).map (·.size)=some cs.size by rw [hcs];exact qQK)
 have CO:=Lh (show cs.all (·.oneCell')=true by rw [hcs];exact qQ3 _ _ _ _ _ _)
 have C4:=Lh (show RBZ.size=cs.size by rw [hcs];rfl)
 clear hm hn hc hR hA hzs RM hz hF hu hL hcs
 go_enter Tryz.func8,Tryz.ntmps8
 go_upto_region 1 with fail
 generalize hw1:World.alloc w _=w1
 generalize hw2:World.alloc w1 _=w2
 generalize hw3:World.alloc w2 _=w3
 generalize hw4:World.alloc w3 _=w4
 have z1:w1.heap.size=w.heap.size+1:=by rw [←hw1,qQD]
 have z2:w2.heap.size=w.heap.size+2:=by rw [←hw2,qQD,z1]
 have z3:w3.heap.size=w.heap.size+3:=by rw [←hw3,qQD,z2]
 have z4:w4.heap.size=w.heap.size+4:=by rw [←hw4,qQD,z3]
 have b12:Below w1.heap.size w1 w2:=by rw [←hw2];exact qQh _ _
 have b23:Below w2.heap.size w2 w3:=by rw [←hw3];exact qQh _ _
 have k2:Below w3.heap.size w3 w4:=by rw [←hw4];exact qQh _ _
 have k3:Below w2.heap.size w2 w4:=b23.trans (k2.mono b23.size)
 have k4:Below w1.heap.size w1 w4:=b12.trans (k3.mono b12.size)
 have B4:=Lh (show Below w.heap.size w w4 by
  have b1:Below w.heap.size w w1:=by rw [←hw1];exact qQh _ _
  exact b1.trans (k4.mono b1.size))
 have R3:=Lh (show w4.heap[w.heap.size]?=some (.cells cs 32 (0,0))from qQb k4 (by omega) (by rw [←hw1];exact qQk _ _ _ rfl))
 have R6:=Lh (show w4.heap[w.heap.size+1]?=some (.cells RBZ 32 (0,0))from qQb k3 (by omega) (by rw [←hw2];exact qQk _ _ _ z1.symm))
 have R7:=Lh (show w4.heap[w.heap.size+2]?=some (.cells RgZ 45 (0,0))from qQb k2 (by omega) (by rw [←hw3];exact qQk _ _ _ z2.symm))
 have R8:=Lh (show w4.heap[w.heap.size+3]?=some (.cells (RowQ kysE) 47 (0,0)) by rw [←hw4];exact qQk _ _ _ z3.symm)
 have Z4:=Lh z4
 clear k2 k3 k4 b12 b23 hw1 hw2 hw3 hw4 z1 z2 z3 z4
 go_wp2_with fail
 refine(qVL w4 Am nm cm zs ZL.out (HRM.out.keep B4.out) N1.out).mono ?_
 rintro e w5 ⟨rfl,hb5⟩
 have B5:=Lh (B4.out.trans (hb5.mono B4.out.size))
 have R3:=Lh (qQb hb5 (qQe R3.out) R3.out)
 have R6:=Lh (qQb hb5 (qQe R6.out) R6.out)
 have R7:=Lh (qQb hb5 (qQe R7.out) R7.out)
 have R8:=Lh (qQb hb5 (qQe R8.out) R8.out)
 have Z5:=Lh (show w.heap.size+4≤w5.heap.size by have:=hb5.size;have:=Z4.out;omega)
 clear hb5
 by_cases hck:qZd zs=true
 case neg=>
  have AE:=Lh (show qJ6 ep zs q=(q,none,2) by rw [qJ6,if_neg hck])
  rw[show chk zs=2 by rw [chk,if_neg hck]]
  clear hck
  go_upto_region 3 with fail
  refine wp_region_list ?_
  simp only [kQf]
  refine qQa (by rfl) (qQj 32 (.tmp 3) rfl w.heap.size rfl 32 cs (0,0) _ R3.out Tryz.underlying32 rfl CZ.out) ?_
  simp only [Act.put,pq1,pq2,pq3]
  refine qQa (by rfl) (qJW rfl _) ?_
  simp only [Act.put,pq1,pq2,pq3]
  refine qQa (by rfl) (run_rkZ rfl _) ?_
  simp only [Act.put,pq1,pq2,pq3]
  refine qQa (by rfl) (by go_simp;rfl) ?_
  simp only [Act.put,pq1,pq2,pq3]
  refine qQf rfl rfl 32 (.tmp 6) (.tmp 19) rfl (w.heap.size+1) cs rfl rfl 32 RBZ R6.out CZ.out C4.out CO.out ?_
  intro w6 hz6 hg6 _
  refine qQf rfl rfl 45 (.tmp 7) (.tmp 20) rfl (w.heap.size+2) RgZ rfl rfl 45 RgZ (qQd hg6 (by intro e;injection e with e;omega) R7.out) qXG rfl qJ0 ?_
  intro w7 hz7 hg7 _
  refine qQf rfl rfl 47 (.tmp 8) (.tmp 21) rfl (w.heap.size+3) (RowQ kysE) rfl rfl 47 (RowQ kysE) (qQd hg7 (by intro e;injection e with e;omega) (qQd hg6 (by intro e;injection e with e;omega) R8.out)) (qZH _) rfl (qX0 _) ?_
  intro w8 hz8 hg8 _
  go_wp2_with fail
  refine qJ1 (w.heap.size+1) (w.heap.size+2) (w.heap.size+3) 32 45 47 cs RgZ (RowQ kysE) _ rfl rfl rfl rfl rfl rfl (qQd hg8 (by intro e;injection e with e;omega) (qQd hg7 (by intro e;injection e with e;omega) hz6)) Tryz.underlying32 rfl CZ.out (qQd hg8 (by intro e;injection e with e;omega) hz7) Tryz.underlying45 rfl qXG hz8 Tryz.underlying47 rfl (qZH _) ?_
  rw[AE.out]
  have B8:=qQo (qQo (qQo B5.out hg6 (by omega)) hg7 (by omega)) hg8 (by omega)
  exact⟨A,n,c,none,0,0,by rw [CE0.out];rfl,HR.out.below B8 HA.out,HN.out,HC.out,fun a e=>.inr e,RdV.nil _ _,rfl,kQh _,(by rintro a ⟨⟩),B8⟩
 case pos=>
 have CK:=Lh hck
 rw[show chk zs=0 by rw [chk,if_pos hck]]
 clear hck
 go_upto_region 4 with fail
 obtain⟨k0,hk0⟩:∃k0,k0=RowQ ⟨ep,[],[],true⟩:=⟨_,rfl⟩
 have K0:=Lh hk0
 have K0Z:=Lh (show(Tryz.prog.info? 47).map (·.size)=some k0.size by rw [hk0];exact qZH _)
 have K0O:=Lh (show k0.all (·.oneCell')=true by rw [hk0];exact qX0 _)
 have K04:=Lh (show(4:Nat)=k0.size by rw [hk0];rfl)
 refine wp_region_list ?_
 simp only [kQf]
 refine qQa (by rfl) (by go_simp;rfl) ?_
 simp only [Act.put,pq1,pq2,pq3]
 refine qQa (by rfl) (run_rkN (.tmp 23) rfl ep rfl _) ?_
 rw[←hk0]
 simp only [Act.put,pq1,pq2,pq3]
 clear hk0
 go_upto_region 5 with (refine qQp rfl rfl 47 (.tmp 11) (.tmp 24) rfl k0 rfl rfl K0Z.out K04.out K0O.out ?_)
 generalize hM:Array.size (World.heap w5)=M
 generalize hw6:World.alloc w5 _=w6
 have b6:Below w5.heap.size w5 w6:=by rw [←hw6];exact qQh _ _
 have B6:=Lh (B5.out.trans (b6.mono B5.out.size))
 have M4:=Lh (show w.heap.size+4≤M by rw [←hM];exact Z5.out)
 have R3:=Lh (qQb b6 (qQe R3.out) R3.out)
 have R6:=Lh (qQb b6 (qQe R6.out) R6.out)
 have R7:=Lh (qQb b6 (qQe R7.out) R7.out)
 have R8:=Lh (qQb b6 (qQe R8.out) R8.out)
 have RK:=Lh (show w6.heap[M]?=some (.cells k0 47 (0,0)) by rw [←hw6];exact qQk _ _ _ hM.symm)
 clear hM hw6 b6 Z5 Z4 B4 B5
 go_upto_region 5 with fail
 refine wp_region_list ?_
 simp only [kQf]
 refine qQa (by rfl) (qQj 32 (.tmp 3) rfl w.heap.size rfl 32 cs (0,0) _ R3.out Tryz.underlying32 rfl CZ.out) ?_
 simp only [Act.put,pq1,pq2,pq3]
 refine qQs (by rfl) (fun K hK=>?_)
 go_simp
 rw[CE0.out]
 refine(qVq q.mode q.F q.u A n c HF.out (by have:=HU.out;omega) 32 (by omega) w6).mono ?_
 rw[←CE0.out]
 obtain⟨X1,hX1⟩:∃X1,X1=qQR q.F q.u 32:=⟨_,rfl⟩
 obtain⟨ds,hds⟩:∃ds,ds=RBC q.mode q.F (q.u+32) A n c:=⟨_,rfl⟩
 rw[←hX1,←hds]
 have X1E:=Lh hX1
 have CE1:=Lh hds
 have CZ1:=Lh (show(Tryz.prog.info? 32).map (·.size)=some ds.size by rw [hds];exact qQK)
 have CO1:=Lh (show ds.all (·.oneCell')=true by rw [hds];exact qQ3 _ _ _ _ _ _)
 have C41:=Lh (show cs.size=ds.size by rw [hds,CE0.out];rfl)
 rintro e w7 ⟨rfl,hb⟩
 have B6:=Lh (B6.out.trans (hb.mono B6.out.size))
 have R3:=Lh (qQb hb (qQe R3.out) R3.out)
 have R6:=Lh (qQb hb (qQe R6.out) R6.out)
 have R7:=Lh (qQb hb (qQe R7.out) R7.out)
 have R8:=Lh (qQb hb (qQe R8.out) R8.out)
 have RK:=Lh (qQb hb (qQe RK.out) RK.out)
 clear hb hds hX1
 refine hK.out _ _ ?_
 clear hK K
 refine qQa (by rfl) (by go_simp;rfl) ?_
 simp only [Act.put,pq1,pq2,pq3]
 refine qQa (by rfl) (by go_simp;rfl) ?_
 simp only [Act.put,pq1,pq2,pq3]
 refine qQa (by rfl) (by go_simp;rfl) ?_
 simp only [Act.put,pq1,pq2,pq3]
 refine qQf rfl rfl 32 (.tmp 3) (.tmp 28) rfl w.heap.size ds rfl rfl 32 cs R3.out CZ1.out C41.out CO1.out ?_
 intro w8 hz8 hg8 hs8
 clear hs8
 have B6:=Lh (qQo B6.out hg8 (kQh _))
 have R3:=Lh hz8
 have R6:=Lh (qQd hg8 (by intro e;injection e with e;omega) R6.out)
 have R7:=Lh (qQd hg8 (by intro e;injection e with e;omega) R7.out)
 have R8:=Lh (qQd hg8 (by intro e;injection e with e;omega) R8.out)
 have RK:=Lh (qQd hg8 (by intro e;injection e with e;have:=M4.out;omega) RK.out)
 clear hz8 hg8
 refine qQa (by rfl) (by go_simp;rfl) ?_
 simp only [Act.put,pq1,pq2,pq3]
 refine qQs (by rfl) (fun K hK=>?_)
 refine qVf (.tmp 30) (.tmp 29) rfl M 1 _ rfl rfl RK.out (by rw [K0.out];show 1<4;decide) ?_
 intro w9 hz9 hg9
 obtain⟨k1,hk⟩:∃k1,k1=RowQ ⟨ep,X1,[],true⟩:=⟨_,rfl⟩
 have RK:=Lh (show w9.heap[M]?=some (.cells k1 47 (0,0)) by rw [hz9,hk,K0.out];rfl)
 have K1:=Lh hk
 have B6:=Lh (qQo B6.out hg9 (by have:=M4.out;omega))
 have R3:=Lh (qQd hg9 (by intro e;injection e with e;have:=M4.out;omega) R3.out)
 have R6:=Lh (qQd hg9 (by intro e;injection e with e;have:=M4.out;omega) R6.out)
 have R7:=Lh (qQd hg9 (by intro e;injection e with e;have:=M4.out;omega) R7.out)
 have R8:=Lh (qQd hg9 (by intro e;injection e with e;have:=M4.out;omega) R8.out)
 clear hz9 hg9 hk
 refine hK.out _ _ ?_
 clear hK K
 simp only [Act.put,pq1,pq2,pq3]
 go_upto_region 6 with fail
 refine wp_region_list ?_
 simp only [kQf]
 refine qQa (by rfl) (qQj 32 (.tmp 3) rfl w.heap.size rfl 32 ds (0,0) _ R3.out Tryz.underlying32 rfl CZ1.out) ?_
 simp only [Act.put,pq1,pq2,pq3]
 refine qQs (by rfl) (fun K hK=>?_)
 go_simp
 rw[CE1.out]
 refine(qVq q.mode q.F (q.u+32) A n c HF.out (by have:=HU.out;omega) 32 (by omega) w9).mono ?_
 rw[←CE1.out]
 obtain⟨X2,hX2⟩:∃X2,X2=qQR q.F (q.u+32) 32:=⟨_,rfl⟩
 obtain⟨es,hds⟩:∃es,es=RBC q.mode q.F (q.u+32+32) A n c:=⟨_,rfl⟩
 rw[←hX2,←hds]
 have X2E:=Lh hX2
 have CE2:=Lh hds
 have CZ2:=Lh (show(Tryz.prog.info? 32).map (·.size)=some es.size by rw [hds];exact qQK)
 have CO2:=Lh (show es.all (·.oneCell')=true by rw [hds];exact qQ3 _ _ _ _ _ _)
 have C42:=Lh (show ds.size=es.size by rw [hds,CE1.out];rfl)
 rintro e w7 ⟨rfl,hb⟩
 have B6:=Lh (B6.out.trans (hb.mono B6.out.size))
 have R3:=Lh (qQb hb (qQe R3.out) R3.out)
 have R6:=Lh (qQb hb (qQe R6.out) R6.out)
 have R7:=Lh (qQb hb (qQe R7.out) R7.out)
 have R8:=Lh (qQb hb (qQe R8.out) R8.out)
 have RK:=Lh (qQb hb (qQe RK.out) RK.out)
 clear hb hds hX2
 refine hK.out _ _ ?_
 clear hK K
 refine qQa (by rfl) (by go_simp;rfl) ?_
 simp only [Act.put,pq1,pq2,pq3]
 refine qQa (by rfl) (by go_simp;rfl) ?_
 simp only [Act.put,pq1,pq2,pq3]
 refine qQa (by rfl) (by go_simp;rfl) ?_
 simp only [Act.put,pq1,pq2,pq3]
 refine qQf rfl rfl 32 (.tmp 3) (.tmp 34) rfl w.heap.size es rfl rfl 32 ds R3.out CZ2.out C42.out CO2.out ?_
 intro w8 hz8 hg8 hs8
 clear hs8
 have B6:=Lh (qQo B6.out hg8 (kQh _))
 have R3:=Lh hz8
 have R6:=Lh (qQd hg8 (by intro e;injection e with e;omega) R6.out)
 have R7:=Lh (qQd hg8 (by intro e;injection e with e;omega) R7.out)
 have R8:=Lh (qQd hg8 (by intro e;injection e with e;omega) R8.out)
 have RK:=Lh (qQd hg8 (by intro e;injection e with e;have:=M4.out;omega) RK.out)
 clear hz8 hg8
 refine qQa (by rfl) (by go_simp;rfl) ?_
 simp only [Act.put,pq1,pq2,pq3]
 refine qQs (by rfl) (fun K hK=>?_)
 refine qVf (.tmp 36) (.tmp 35) rfl M 2 _ rfl rfl RK.out (by rw [K1.out];show 2<4;decide) ?_
 intro w10 hz9 hg9
 obtain⟨k2,hk⟩:∃k2,k2=RowQ ⟨ep,X1,X2,true⟩:=⟨_,rfl⟩
 have RK:=Lh (show w10.heap[M]?=some (.cells k2 47 (0,0)) by rw [hz9,hk,K1.out];rfl)
 have K2:=Lh hk
 have B6:=Lh (qQo B6.out hg9 (by have:=M4.out;omega))
 have R3:=Lh (qQd hg9 (by intro e;injection e with e;have:=M4.out;omega) R3.out)
 have R6:=Lh (qQd hg9 (by intro e;injection e with e;have:=M4.out;omega) R6.out)
 have R7:=Lh (qQd hg9 (by intro e;injection e with e;have:=M4.out;omega) R7.out)
 have R8:=Lh (qQd hg9 (by intro e;injection e with e;have:=M4.out;omega) R8.out)
 clear hz9 hg9 hk
 refine hK.out _ _ ?_
 clear hK K
 simp only [Act.put,pq1,pq2,pq3]
 obtain⟨y,hy⟩:∃y,y=qJC q ep:=⟨_,rfl⟩
 have YE:=Lh hy
 have YK:=Lh (show OkK y by rw [hy];exact ok_keysQ _ _)
 have KY:=Lh (show k2=RowQ y by rw [K2.out,hy,X1E.out,X2E.out];rfl)
 have KZ:=Lh (show(Tryz.prog.info? 47).map (·.size)=some k2.size by rw [KY.out];exact qZH _)
 have KO:=Lh (show k2.all (·.oneCell')=true by rw [KY.out];exact qX0 _)
 have K24:=Lh (show(RowQ kysE).size=k2.size by rw [KY.out];rfl)
 obtain⟨q6,hq6⟩:∃q6:RBx,q6={ q with u:=q.u+64 }:=⟨_,rfl⟩
 have Q6:=Lh hq6
 have CE6:=Lh (show es=RBC q6.mode q6.F q6.u A n c by rw [CE2.out,hq6])
 obtain⟨r,hr⟩:∃r,r=qZ3 y zs q6:=⟨_,rfl⟩
 have RE:=Lh hr
 have MQ:=Lh (show qJ6 ep zs q=r by rw [qJ6,if_pos CK.out,hr,hq6,hy])
 have RX:=Lh (show r.2.2=if r.2.1.isSome then 0 else 15 by rw [hr,qZ3,if_pos CK.out])
 clear hy hq6 hr CE0 CZ CO C4 CE1 CZ1 CO1 C41 CE2 CO2 K0 K0Z K0O K04 K1
 go_upto_region 7 with fail
 refine wp_region_list ?_
 simp only [kQf]
 refine qQa (by rfl) (qQj 32 (.tmp 3) rfl w.heap.size rfl 32 es (0,0) _ R3.out Tryz.underlying32 rfl CZ2.out) ?_
 simp only [Act.put,pq1,pq2,pq3]
 refine qQa (by rfl) (qQj 47 (.tmp 11) rfl M rfl 47 k2 (0,0) _ RK.out Tryz.underlying47 rfl KZ.out) ?_
 simp only [Act.put,pq1,pq2,pq3]
 refine qQa (by rfl) (by go_simp;rfl) ?_
 simp only [Act.put,pq1,pq2,pq3]
 refine qQs (by rfl) (fun K hK=>?_)
 go_simp
 rw[CE6.out,KY.out]
 refine(qVO w10 q6 (by rw [Q6.out];exact HM.out) A n c (by rw [Q6.out];exact HN.out) HC.out (by rw [Q6.out];exact HR.out.keep B6.out) (fun a e=>kQb (HA.out a e) B6.out.size) y YK.out Am nm cm zs ZL.out (HRM.out.keep B6.out) HZ.out N1.out (by rw [Q6.out];exact HF.out) (by rw [Q6.out];have:=HU.out;show q.u+64≤_;omega) HL.out).mono ?_
 have MW:=Lh (qQe RK.out)
 rw[←CE6.out,←KY.out,←RE.out]
 rintro e w11 ⟨A',n',c',B,m,k,rfl,hO⟩
 obtain⟨ds,hds⟩:∃ds,ds=RBC r.1.mode r.1.F r.1.u A' n' c':=⟨_,rfl⟩
 obtain⟨rs,hrs⟩:∃rs:Array Value,rs=#[.slice B m k,.string (strB (r.2.1.getD ([],[])).2)]:=⟨_,rfl⟩
 obtain⟨ek,hek⟩:∃ek,ek=r.2.2:=⟨_,rfl⟩
 rw[←hds,←hrs,←hek]
 have DE:=Lh hds
 have DZ:=Lh (show(Tryz.prog.info? 32).map (·.size)=some ds.size by rw [hds];exact qQK)
 have DO:=Lh (show ds.all (·.oneCell')=true by rw [hds];exact qQ3 _ _ _ _ _ _)
 have D4:=Lh (show RBZ.size=ds.size by rw [hds];rfl)
 have SE:=Lh hrs
 have SZ:=Lh (show(Tryz.prog.info? 45).map (·.size)=some rs.size by rw [hrs];exact qZR)
 have SO:=Lh (show rs.all (·.oneCell')=true by rw [hrs];simp [Value.oneCell'])
 have S2:=Lh (show RgZ.size=rs.size by rw [hrs];rfl)
 have EKE:=Lh hek
 have O:=Lh hO
 have R6:=Lh (qQb hO.bel (qQe R6.out) R6.out)
 have R7:=Lh (qQb hO.bel (qQe R7.out) R7.out)
 have R8:=Lh (qQb hO.bel (qQe R8.out) R8.out)
 have RK:=Lh (qQb hO.bel (qQe RK.out) RK.out)
 have HX:=Lh (show w10.heap.size≤w11.heap.size from hO.bel.size)
 have MX:=Lh (show M<w11.heap.size from qQe RK.out)
 have FARA:=Lh (show(∀a,A'=some a→a.block<w.heap.size∨M<a.block)∧∀a,B=some a→M<a.block from⟨fun a e=>(hO.off a e).symm.imp (HA.out a) fun h=>by have:=MW.out;omega,fun a e=>by have:=(hO.xo a e).1;have:=MW.out;omega⟩)
 clear hds hrs hek hO
 refine hK.out _ _ ?_
 clear hK K
 refine qQa (by rfl) (by go_simp;rfl) ?_
 simp only [Act.put,pq1,pq2,pq3]
 refine qQa (by rfl) (by go_simp;rfl) ?_
 simp only [Act.put,pq1,pq2,pq3]
 refine qQa (by rfl) (by go_simp;rfl) ?_
 simp only [Act.put,pq1,pq2,pq3]
 refine qQa (by rfl) (by go_simp;rfl) ?_
 simp only [Act.put,pq1,pq2,pq3]
 refine qQs (by rfl) (fun K hK=>?_)
 go_simp
 generalize hN:Array.size (World.heap w11)=M12
 generalize hw12:World.alloc w11 _=w12
 have O12:=Lh (O.out.keep (show Below w11.heap.size w11 w12 by rw [←hw12];exact qQh _ _))
 have k12:Below w11.heap.size w11 w12:=by rw [←hw12];exact qQh _ _
 have T12:=Lh (show w12.heap[M12]?=some (.cells RBZ 32 (0,0)) by rw [←hw12];exact qQk _ _ _ hN.symm)
 have R6:=Lh (qQb k12 (qQe R6.out) R6.out)
 have R7:=Lh (qQb k12 (qQe R7.out) R7.out)
 have R8:=Lh (qQb k12 (qQe R8.out) R8.out)
 have RK:=Lh (qQb k12 (qQe RK.out) RK.out)
 have ON:=Lh (show(∀a,A'=some a→a.block≠M12)∧(∀a,B=some a→a.block≠M12)from by
  have hAs:=HA.out;have hB6:=B6.out.size;have hHX:=HX.out
  refine⟨fun a e=>?_,fun a e=>?_⟩
  ·rcases O.out.off a e with h|h
   ·omega
   ·have:=hAs a h;omega
  ·have:=O.out.xo a e;omega)
 have MN:=Lh (show M<M12 by rw [←hN];exact MX.out)
 have HW12:=Lh (show w10.heap.size≤M12 by rw [←hN];exact HX.out)
 have L12:=Lh (qQe T12.out)
 clear hN hw12 k12 O
 refine hK.out _ _ ?_
 clear hK K
 refine qQs (by rfl) (fun K hK=>?_)
 go_simp
 generalize hN:Array.size (World.heap w12)=M13
 generalize hw13:World.alloc w12 _=w13
 have k13:Below w12.heap.size w12 w13:=by rw [←hw13];exact qQh _ _
 have O13:=Lh (O12.out.keep k13)
 have T13:=Lh (show w13.heap[M13]?=some (.cells RgZ 45 (0,0)) by rw [←hw13];exact qQk _ _ _ hN.symm)
 have T12:=Lh (qQb k13 (qQe T12.out) T12.out)
 have R6:=Lh (qQb k13 (qQe R6.out) R6.out)
 have R7:=Lh (qQb k13 (qQe R7.out) R7.out)
 have R8:=Lh (qQb k13 (qQe R8.out) R8.out)
 have RK:=Lh (qQb k13 (qQe RK.out) RK.out)
 have ON3:=Lh (show(∀a,A'=some a→a.block≠M13)∧(∀a,B=some a→a.block≠M13)∧M12<M13 from by
  have hAs:=HA.out;have h4:=M4.out;have h5:=L12.out;have h6:=MN.out
  refine⟨fun a e=>?_,fun a e=>?_,by omega⟩
  ·rcases O12.out.off a e with h|h
   ·omega
   ·have:=hAs a h;omega
  ·have:=O12.out.xo a e;omega)
 clear hN hw13 k13 O12
 refine hK.out _ _ ?_
 clear hK K
 refine qQf rfl rfl 32 (.tmp 12) (.tmp 42) rfl M12 ds rfl rfl 32 RBZ T12.out DZ.out D4.out DO.out ?_
 intro w14 hz14 hg14 hs14
 clear hs14
 refine qQf rfl rfl 45 (.tmp 13) (.tmp 43) rfl M13 rs rfl rfl 45 RgZ (qQd hg14 (by intro e;injection e with e;have:=ON3.out.2.2;omega) T13.out) SZ.out S2.out SO.out ?_
 intro w15 hz15 hg15 hs15
 clear hs15
 have k15:∀{j:Nat} {o:Obj},j≤M→w13.heap[j]?=some o→w15.heap[j]?=some o:=fun hj hx=>qQd hg15 (fun e=>by have:=Option.some.inj e;have:=ON3.out.2.2;have:=MN.out;omega) (qQd hg14 (fun e=>by have:=Option.some.inj e;have:=MN.out;omega) hx)
 have O15:=Lh (show RgOut w A r A' n' c' B m k w15 from((O13.out.grown hg14 HW12.out ON.out.1 ON.out.2).grown hg15 (by have:=HW12.out;have:=ON3.out.2.2;omega) ON3.out.1 ON3.out.2.1).low B6.out)
 have R6:=Lh (k15 (by have:=M4.out;omega) R6.out)
 have R7:=Lh (k15 (by have:=M4.out;omega) R7.out)
 have R8:=Lh (k15 (by have:=M4.out;omega) R8.out)
 have RK:=Lh (k15 (kQh _) RK.out)
 have T12:=Lh (qQd hg15 (by intro e;injection e with e;have:=ON3.out.2.2;omega) hz14)
 have T13:=Lh hz15
 clear k15 hz14 hz15 hg14 hg15 O13 R3
 refine qQa (by rfl) (by go_simp;rfl) ?_
 simp only [Act.put,pq1,pq2,pq3]
 obtain⟨r1,rx,re⟩:=r
 have RX:=Lh (show re=if rx.isSome then 0 else 15 from RX.out)
 have DE:=Lh (show ds=RBC r1.mode r1.F r1.u A' n' c' from DE.out)
 obtain rfl:ek=re:=EKE.out
 rcases rx with _|⟨xs,d⟩
 ·as_aux_lemma=>
   obtain rfl:ek=15:=RX.out
   go_upto_region 9 with fail
   refine wp_region_list ?_
   simp only [kQf]
   refine qQa (by rfl) (qQj 32 (.tmp 12) rfl M12 rfl 32 ds (0,0) _ T12.out Tryz.underlying32 rfl DZ.out) ?_
   simp only [Act.put,pq1,pq2,pq3]
   refine qQa (by rfl) (qJW rfl _) ?_
   simp only [Act.put,pq1,pq2,pq3]
   refine qQa (by rfl) (run_rkZ rfl _) ?_
   simp only [Act.put,pq1,pq2,pq3]
   refine qQa (by rfl) (by go_simp;rfl) ?_
   simp only [Act.put,pq1,pq2,pq3]
   refine qQf rfl rfl 32 (.tmp 6) (.tmp 47) rfl (w.heap.size+1) ds rfl rfl 32 RBZ R6.out DZ.out D4.out DO.out ?_
   intro w16 hz6 hg6 _
   refine qQf rfl rfl 45 (.tmp 7) (.tmp 48) rfl (w.heap.size+2) RgZ rfl rfl 45 RgZ (qQd hg6 (by intro e;injection e with e;omega) R7.out) qXG rfl qJ0 ?_
   intro w17 hz7 hg7 _
   refine qQf rfl rfl 47 (.tmp 8) (.tmp 49) rfl (w.heap.size+3) (RowQ kysE) rfl rfl 47 (RowQ kysE) (qQd hg7 (by intro e;injection e with e;omega) (qQd hg6 (by intro e;injection e with e;omega) R8.out)) (qZH _) rfl (qX0 _) ?_
   intro w18 hz8 hg8 _
   go_wp2_with fail
   refine qJ1 (w.heap.size+1) (w.heap.size+2) (w.heap.size+3) 32 45 47 ds RgZ (RowQ kysE) _ rfl rfl rfl rfl rfl rfl (qQd hg8 (by intro e;injection e with e;omega) (qQd hg7 (by intro e;injection e with e;omega) hz6)) Tryz.underlying32 rfl DZ.out (qQd hg8 (by intro e;injection e with e;omega) hz7) Tryz.underlying45 rfl qXG hz8 Tryz.underlying47 rfl (qZH _) ?_
   rw[MQ.out]
   have hF:∀g,g≤w.heap.size+3→w.heap.size≤g→(∀a,A'=some a→a.block≠g)∧(∀a,(none:Option Addr)=some a→a.block≠g):=fun g h1 h2=>⟨fun a e=>by
    rcases FARA.out.1 a e with h|h<;>have:=M4.out<;>omega,by rintro a ⟨⟩⟩
   have O0:RgOut w A (r1,none,15) A' n' c' none 0 0 w15:=⟨O15.out.rd,O15.out.ln,O15.out.cap,O15.out.off,RdV.nil _ _,rfl,kQh _,(by rintro a ⟨⟩),O15.out.bel⟩
   have O1:=(((O0.grown hg6 (by omega) (hF _ (by omega) (by omega)).1 (hF _ (by omega) (by omega)).2).grown hg7 (by omega) (hF _ (by omega) (by omega)).1 (hF _ (by omega) (by omega)).2).grown hg8 (by omega) (hF _ (by omega) (by omega)).1 (hF _ (by omega) (by omega)).2)
   exact⟨A',n',c',none,0,0,by rw [DE.out];rfl,O1⟩
 ·as_aux_lemma=>
   obtain rfl:ek=0:=RX.out
   have S:=Lh (show w15.drew.heap[M12]?=some (.cells ds 32 (0,0))∧w15.drew.heap[M13]?=some (.cells rs 45 (0,0))∧w15.drew.heap[M]?=some (.cells k2 47 (0,0))from⟨T12.out,T13.out,RK.out⟩)
   have X6:=Lh (show w15.drew.heap[w.heap.size+1]?=_ from R6.out)
   have X7:=Lh (show w15.drew.heap[w.heap.size+2]?=_ from R7.out)
   have X8:=Lh (show w15.drew.heap[w.heap.size+3]?=_ from R8.out)
   have X:=Lh (show RgOut w A (r1,some (xs,d),0) A' n' c' B m k w15.drew from O15.out.keep (Below.refl _ _).drew)
   have BIG:=Lh (show w.heap.size+4≤M∧M<M12∧M12<M13 from⟨M4.out,MN.out,ON3.out.2.2⟩)
   have hF:=Lh (show ∀g,g≤w.heap.size+3→w.heap.size≤g→(∀a,A'=some a→a.block≠g)∧(∀a,B=some a→a.block≠g)from fun g h1 h2=>⟨fun a e=>by
    rcases FARA.out.1 a e with h|h<;>have:=M4.out<;>omega,fun a e=>by have:=FARA.out.2 a e;have:=M4.out;omega⟩)
   clear R6 R7 R8 RK T12 T13 O15
   go_upto_region 10 with fail
   refine qQu (fun W=>W.heap[M12]?=some (.cells ds 32 (0,0))∧W.heap[M13]?=some (.cells rs 45 (0,0))∧W.heap[M]?=some (.cells k2 47 (0,0))) [(true,0),(true,1),(true,2),(false,3),(false,4),(false,5),(true,6)] (by kernel_rfl) (by kernel_rfl) (fun _ _ d _ _ h=>by cases d<;>exact h) ?_
   simp only [kQl,kQm,kQd,kQg,kQe,kQo]
   generalize World.drew w15=wd at *
   refine qQc (by rfl) S.out (fun W hW=>qQj 32 (.tmp 12) rfl M12 rfl 32 ds (0,0) _ hW.1 Tryz.underlying32 rfl DZ.out) ?_
   simp only [Act.put,pq1,pq2,pq3]
   refine qQc (by rfl) S.out (fun W hW=>qQj 45 (.tmp 13) rfl M13 rfl 45 rs (0,0) _ hW.2.1 Tryz.underlying45 rfl SZ.out) ?_
   simp only [Act.put,pq1,pq2,pq3]
   refine qQc (by rfl) S.out (fun W hW=>qQj 47 (.tmp 11) rfl M rfl 47 k2 (0,0) _ hW.2.2 Tryz.underlying47 rfl KZ.out) ?_
   simp only [Act.put,pq1,pq2,pq3]
   refine qQE (by rfl) (fun K hK=>?_)
   refine qQN 32 (.tmp 6) (.tmp 51) rfl (w.heap.size+1) ds rfl rfl _ _ X6.out DZ.out D4.out DO.out ?_
   intro wx hz hg _
   have S:=Lh (⟨qQd hg (by intro e;injection e with e;have:=BIG.out;omega) S.out.1,qQd hg (by intro e;injection e with e;have:=BIG.out;omega) S.out.2.1,qQd hg (by intro e;injection e with e;have:=BIG.out;omega) S.out.2.2⟩:_∧_∧_)
   have X6:=Lh hz
   have X7:=Lh (qQd hg (by intro e;injection e with e;omega) X7.out)
   have X8:=Lh (qQd hg (by intro e;injection e with e;omega) X8.out)
   have X:=Lh (X.out.grown hg (by omega) (hF.out _ (by omega) (by omega)).1 (hF.out _ (by omega) (by omega)).2)
   clear hz hg
   refine hK.out _ _ S.out ?_
   clear hK K
   refine qQE (by rfl) (fun K hK=>?_)
   refine qQN 45 (.tmp 7) (.tmp 52) rfl (w.heap.size+2) rs rfl rfl _ _ X7.out SZ.out S2.out SO.out ?_
   intro wy hz hg _
   have S:=Lh (⟨qQd hg (by intro e;injection e with e;have:=BIG.out;omega) S.out.1,qQd hg (by intro e;injection e with e;have:=BIG.out;omega) S.out.2.1,qQd hg (by intro e;injection e with e;have:=BIG.out;omega) S.out.2.2⟩:_∧_∧_)
   have X6:=Lh (qQd hg (by intro e;injection e with e;omega) X6.out)
   have X7:=Lh hz
   have X8:=Lh (qQd hg (by intro e;injection e with e;omega) X8.out)
   have X:=Lh (X.out.grown hg (by omega) (hF.out _ (by omega) (by omega)).1 (hF.out _ (by omega) (by omega)).2)
   clear hz hg
   refine hK.out _ _ S.out ?_
   clear hK K
   refine qQE (by rfl) (fun K hK=>?_)
   refine qQN 47 (.tmp 8) (.tmp 53) rfl (w.heap.size+3) k2 rfl rfl _ _ X8.out KZ.out K24.out KO.out ?_
   intro wz hz hg _
   have S:=Lh (⟨qQd hg (by intro e;injection e with e;have:=BIG.out;omega) S.out.1,qQd hg (by intro e;injection e with e;have:=BIG.out;omega) S.out.2.1,qQd hg (by intro e;injection e with e;have:=BIG.out;omega) S.out.2.2⟩:_∧_∧_)
   have X6:=Lh (qQd hg (by intro e;injection e with e;omega) X6.out)
   have X7:=Lh (qQd hg (by intro e;injection e with e;omega) X7.out)
   have X8:=Lh hz
   have X:=Lh (X.out.grown hg (by omega) (hF.out _ (by omega) (by omega)).1 (hF.out _ (by omega) (by omega)).2)
   clear hz hg
   refine hK.out _ _ S.out ?_
   clear hK K
   refine qQc (by rfl) S.out (fun W hW=>by go_simp;rfl) ?_
   simp only [Act.put,pq1,pq2,pq3]
   refine qQG ?_
   go_wp2_with fail
   refine qJ1 (w.heap.size+1) (w.heap.size+2) (w.heap.size+3) 32 45 47 ds rs k2 _ rfl rfl rfl rfl rfl rfl X6.out Tryz.underlying32 rfl DZ.out X7.out Tryz.underlying45 rfl SZ.out X8.out Tryz.underlying47 rfl KZ.out ?_
   rw[MQ.out]
   exact⟨A',n',c',B,m,k,by rw [DE.out,SE.out,KY.out,YE.out];rfl,X.out⟩
theorem info_rd:(Tryz.prog.info? 104).map (·.size)=some 2:=by kernel_rfl
theorem rnum8_any (w:World) (l:List UInt8) (q:Nat) (hq:l.length=q) (h8:8≤q) (hl:q≤1000) :
  Calls Tryz.prog 39 #[.agg #[.string (strB l),.int .i64 0],.int .i64 8] w fun e w'=>e=.returned (.tuple #[.agg #[.string (strB (l.drop 8)),.int .i64 0],.int .u64 (qXk (l.take 8):Int)])∧Below w.heap.size w w':=by
 have sz:(strB l).size=q:=by rw [qQH,hq]
 have QE:=Lh hq
 have Q8:=Lh h8
 have qb:(q:Int)≤1000:=by omega
 have hD2:decide (q<8)=false:=by simp;omega
 have hD3:decide ((q:Int)<8)=false:=by simp;omega
 clear hl hq
 go_enter Tryz.func39,Tryz.ntmps39
 go_upto_if 9 with fail
 generalize hw:World.alloc (World.alloc w _) _=w2
 have c0:=Lh (show w2.cell? ⟨w.heap.size,0,none⟩=some (.string (strB l)) by rw [←hw];exact qQg (qQM _ _ _ (by simp) (qQk _ _ _ rfl)) 0 rfl)
 have c1:=Lh (show w2.cell? ⟨w.heap.size,1,none⟩=some (.int .i64 0) by rw [←hw];exact qQg (qQM _ _ _ (by simp) (qQk _ _ _ rfl)) 1 rfl)
 have HW:=Lh hw
 clear hw
 have d0:=c0.out
 have d1:=c1.out
 go_wp2_with fail
 go_loopw [6,7] (fun v i wr=>∃j:Nat,j≤8∧i=.int .i64 (j:Int)∧v=.int .u64 ((qXk (l.take j):Nat):Int)∧wr=w2) (fun _ i _=>8-(intOf i).toNat)
 case atStart=>exact⟨0,by omega,rfl,rfl,rfl⟩
 case round=>
  obtain⟨j,hj,rfl,rfl,hwr⟩:=hrel
  rw[hwr]
  clear hwr wr
  have J:=Lh hj
  obtain⟨y,hy⟩:∃y,y=qXk (l.take j):=⟨_,rfl⟩
  rw[←hy]
  have Y:=Lh hy
  by_cases hlt:j<8
  ·have hE:decide ((j:Int)<8)=true:=by simp;omega
   have JL:=Lh hlt
   have jb:(j:Int)<8:=by omega
   have Y56:=Lh (show y<72057594037927936 by
    have h1:=qJO (l.take j)
    have h2:(l.take j).length≤7:=by rw [kQp];omega
    have h3:256 ^ (l.take j).length≤256 ^ 7:=Nat.pow_le_pow_right (by omega) h2
    omega)
   obtain⟨x,hx⟩:∃x,x=l.getD j 0:=⟨_,rfl⟩
   have X:=Lh hx
   have yb:(y:Int)<72057594037927936:=by have:=Y56.out;omega
   have xb:=x.toNat_lt
   have xb:(x.toNat:Int)<256:=by omega
   clear hy hx
   go_wp2_with (refine qQa rfl (qQV 9 (.tmp 33) (.tmp 34) rfl Tryz.underlying9 l j x X.out (by have:=QE.out;have:=Q8.out;have:=JL.out;omega) .i64 (j:Int) rfl rfl rfl _) ?_)
   go_wp2_with fail
   go_roundw
   case rel=>exact⟨j+1,JL.out,by go_num,by rw [X.out,Y.out,qYV l j (by have:=QE.out;have:=Q8.out;have:=JL.out;omega)]<;>go_num,trivial⟩
   case measure=>have:=JL.out;simp [intOf];omega
  ·have hE:decide ((j:Int)<8)=false:=by simp;omega
   have JE:=Lh (show y=qXk (l.take 8) by rw [Y.out,show j=8 by have:=J.out;omega])
   rw[←HW.out]
   clear hy
   go_wp2_with (refine qQa rfl (qXw 9 (.tmp 39) (.tmp 40) rfl Tryz.underlying9 l 8 (by have:=QE.out;have:=Q8.out;omega) rfl rfl _) ?_)
   go_wp2_with fail
   refine qZP (w.heap.size+1) 104 #[.string (strB (l.drop 8)),.int .i64 0] _ rfl rfl rfl rfl (qQk _ _ _ (by simp)) Tryz.underlying104 rfl info_rd ⟨by rw [←JE.out];rfl,(qQh _ _).trans ((qQh _ _).mono (by simp))⟩
theorem run_newrd {o:Oper} {a:Act} (x:Operand) (ho:o.op=.build 104 #[(0,x)]) (l:List UInt8) (hx:a.eval x=.string (strB l)) (W:World):(execOp a.eval o).run Tryz.prog W=.ok (.value (.agg #[.string (strB l),.int .i64 0])) W:=by
 have h2:∀(s:ByteArray) (W:World),(Instr.build 104 #[(0,.string s)]).run Tryz.prog W=.ok (.agg #[.string s,.int .i64 0]) W:=by
  intro s W
  kernel_rfl
 unfold execOp
 simp only [ho,kQs,kQw,List.map_nil,hx,Sem.run_bind,h2,Result.andThen_ok,Sem.run_pure]
theorem run_rk4 {o:Oper} {a:Act} (x0 x1 x2 x3:Operand) (ho:o.op=.build 47 #[(0,x0),(1,x1),(2,x2),(3,x3)]) (y:Kys) (h0:a.eval x0=.int .u64 (y.e.toNat:Int)) (h1:a.eval x1=.string (strB y.k)) (h2:a.eval x2=.string (strB y.o)) (h3:a.eval x3=.bool y.w) (W:World) :
  (execOp a.eval o).run Tryz.prog W=.ok (.value (.agg (RowQ y))) W:=by
 have h:∀(z:Int) (s s2:ByteArray) (b:Bool) (W:World),(Instr.build 47 #[(0,.int .u64 z),(1,.string s),(2,.string s2),(3,.bool b)]).run Tryz.prog W=.ok (.agg #[.int .u64 z,.string s,.string s2,.bool b]) W:=by
  intro z s s2 b W
  kernel_rfl
 unfold execOp
 simp only [ho,kQs,kQw,List.map_nil,h0,h1,h2,h3,Sem.run_bind,h,Result.andThen_ok,Sem.run_pure]
 rfl
theorem SX_get {xs:List (List UInt8)} {j:Nat} {x:List UInt8} (h:xs[j]?=some x):(SX xs)[j]?=some (.string (strB x)):=by rw [SX,List.getElem?_map,h];rfl
theorem qKl:∃ti,Tryz.prog.info? 9=some ti∧ti.size=1:=Option.map_eq_some_iff.1 (show(Tryz.prog.info? 9).map (·.size)=some 1 by kernel_rfl)
theorem beVal_u64 (s:List UInt8) (h:8≤s.length):((UInt64.ofNat (qXk (s.take 8))).toNat:Int)=(qXk (s.take 8):Int):=by
 have h1:=qJO (s.take 8)
 rw[kQp,Nat.min_eq_left h]at h1
 rw[UInt64.toNat_ofNat_of_lt' (by omega)]
theorem runwrap_any (w:World) (q:RBx) (hm:q.mode=0∨q.mode=1) (A:Option Addr) (n c:Nat) (hn:q.L.length=n) (hR:RdV w A (EC q.L)) (hL:n≤10000) (B:Option Addr) (m k:Nat) (xs:List (List UInt8)) (hx:RdV w B (SX xs)) (hxm:xs.length=m) (hxl:∀x∈xs,x.length≤1000) (hm1:m≤1000) (d:List UInt8)
  (key:List UInt8) (hk:key.length=32) (hT:∀x∈xs,∀t,qXU q key qZF x=some t→t.length≤100000) :
  Calls Tryz.prog 18 #[.agg (RBC q.mode q.F q.u A n c),.agg #[.slice B m k,.string (strB d)],.string (strB key)] w fun e w'=>e=.returned (.tuple #[.agg (RowQ (if (qZQ q key xs).2=0 then(qZQ q key xs).1 else kysE)),.int .i64 (qZQ q key xs).2])∧Below w.heap.size w w':=by
 have HM:=Lh hm
 have HN:=Lh hn
 have HR:=Lh hR
 have HL:=Lh hL
 have HX:=Lh hx
 have XM:=Lh hxm
 have XL:=Lh hxl
 have HK:=Lh hk
 have HT:=Lh hT
 have mb:(m:Int)≤1000:=by omega
 obtain⟨cs,hcs⟩:∃cs,cs=RBC q.mode q.F q.u A n c:=⟨_,rfl⟩
 obtain⟨rs,hrs⟩:∃rs:Array Value,rs=#[.slice B m k,.string (strB d)]:=⟨_,rfl⟩
 obtain⟨U,hU⟩:∃U,U=qZQ q key xs:=⟨_,rfl⟩
 obtain⟨vU,hvU⟩:∃vU,vU=RowQ (if U.2=0 then U.1 else kysE):=⟨_,rfl⟩
 obtain⟨eU,heU⟩:∃eU,eU=U.2:=⟨_,rfl⟩
 rw[←hcs,←hrs,←hU,←hvU,←heU]
 have VU:=Lh hvU
 have EU:=Lh heU
 have CE:=Lh hcs
 have SE:=Lh hrs
 have UE:=Lh hU
 have CZ:=Lh (show(Tryz.prog.info? 32).map (·.size)=some cs.size by rw [hcs];exact qQK)
 obtain⟨ti,ht0,ht1⟩:=qKl
 have T0:=Lh ht0
 have T1:=Lh ht1
 clear hm hn hR hL hx hxm hxl hk hT hcs hrs hU ht0 ht1 hvU heU
 go_enter Tryz.func18,Tryz.ntmps18
 go_upto_region 1 with fail
 generalize hw1:World.alloc w _=w1
 generalize hw2:World.alloc w1 _=w2
 generalize hw3:World.alloc w2 _=w3
 have z1:w1.heap.size=w.heap.size+1:=by rw [←hw1,qQD]
 have z2:w2.heap.size=w.heap.size+2:=by rw [←hw2,qQD,z1]
 have z3:w3.heap.size=w.heap.size+3:=by rw [←hw3,qQD,z2]
 have b12:Below w1.heap.size w1 w2:=by rw [←hw2];exact qQh _ _
 have k3:Below w2.heap.size w2 w3:=by rw [←hw3];exact qQh _ _
 have k4:Below w1.heap.size w1 w3:=b12.trans (k3.mono b12.size)
 have B3:=Lh (show Below w.heap.size w w3 by
  have b1:Below w.heap.size w w1:=by rw [←hw1];exact qQh _ _
  exact b1.trans (k4.mono b1.size))
 have R3:=Lh (show w3.heap[w.heap.size]?=some (.cells cs 32 (0,0))from qQb k4 (by omega) (by rw [←hw1];exact qQk _ _ _ rfl))
 have R4:=Lh (show w3.heap[w.heap.size+1]?=some (.cells rs 45 (0,0))from qQb k3 (by omega) (by rw [←hw2];exact qQk _ _ _ z1.symm))
 have R6:=Lh (show w3.heap[w.heap.size+2]?=some (.cells (RowQ kysE) 47 (0,0)) by rw [←hw3];exact qQk _ _ _ z2.symm)
 have Z3:=Lh z3
 have C40:=Lh (show rs[0]?=some (.slice B m k) by rw [SE.out];rfl)
 clear k3 k4 b12 hw1 hw2 hw3 z1 z2 z3
 have KZ:=Lh (qZH kysE)
 go_wp2_with fail
 go_loopw [8] (fun i wr=>∃j:Nat,j≤m∧i=.int .i64 (j:Int)∧U=qZQ q key (xs.drop j)∧Below w3.heap.size w3 wr) (fun i _=>m-(intOf i).toNat)
 case atStart=>exact⟨0,Nat.zero_le _,rfl,UE.out,Below.refl _ _⟩
 case round=>
  obtain⟨j,hj,rfl,hu,hb⟩:=hrel
  have J:=Lh hj
  have HU:=Lh hu
  have BW:=Lh hb
  clear hj hu hb
  obtain⟨wp,rfl⟩:∃wp:World,wp=wr:=⟨_,rfl⟩
  have c40:=qQg (qQb BW.out (qQe R4.out) R4.out) 0 C40.out
  by_cases hlt:j<m
  ·have hD:decide ((j:Int)<(m:Int))=true:=by simp;omega
   have JQ:=Lh hlt
   have jb:(j:Int)<1000:=by omega
   obtain⟨x,hx⟩:∃x,xs[j]?=some x:=⟨_,kQi (by rw [XM.out];exact hlt)⟩
   obtain⟨b,o,hA,hc⟩:=HX.out j _ (SX_get hx)
   have AE:=Lh hA
   have CX:=Lh (qQL (qQL hc B3.out) BW.out)
   have XIN:=Lh (kQu hx)
   have LX:=Lh (XL.out x XIN.out)
   obtain⟨r,hr⟩:∃r,r=qXU q key qZF x:=⟨_,rfl⟩
   have RE:=Lh hr
   have UD:=Lh (show(r=none→U=qZQ q key (xs.drop (j+1)))∧∀t,r=some t→U=if qXJ t then(qXW t,0)else qZQ q key (xs.drop (j+1))from⟨fun h=>by rw [HU.out,qKb hx,←hr,h],fun t h=>by rw [HU.out,qKb hx,←hr,h]⟩)
   obtain⟨s,hs⟩:∃s,s=r.getD []:=⟨_,rfl⟩
   obtain⟨bq,hbq⟩:∃bq,bq=r.isSome:=⟨_,rfl⟩
   have S1:=Lh hs
   have BQ:=Lh hbq
   have Z:=Lh (show Below wp.heap.size wp wp.drew from(Below.refl _ _).drew)
   have R3:=Lh (qQb BW.out (qQe R3.out) R3.out)
   have R4:=Lh (qQb BW.out (qQe R4.out) R4.out)
   clear hx hA hc hr hs hbq
   go_upto_region 4 with fail
   clear c40
   refine qQu (fun W=>Below wp.heap.size wp W) [(true,0),(true,1),(true,2),(true,3),(true,4),(true,5),(true,6),(false,7),(true,8),(true,9),(true,10),(true,11),(true,12)] (by kernel_rfl) (by kernel_rfl) (fun _ _ d _ _ h=>by cases d<;>exact h) ?_
   simp only [kQl,kQm,kQd,kQg,kQe,kQo]
   generalize World.drew wp=wd at *
   refine qQc (by rfl) Z.out (fun W hW=>qQj 32 (.tmp 3) rfl w.heap.size rfl 32 cs (0,0) _ (qQb hW (qQe R3.out) R3.out) Tryz.underlying32 rfl CZ.out) ?_
   simp only [Act.put,pq1,pq2,pq3]
   refine qQc (by rfl) Z.out (fun W hW=>by go_simp;rfl) ?_
   simp only [Act.put,pq1,pq2,pq3]
   refine qQc (by rfl) Z.out (fun W hW=>by go_simp;rfl) ?_
   simp only [Act.put,pq1,pq2,pq3]
   refine qQc (by rfl) Z.out (fun W hW=>qQq 43 (.tmp 24) rfl _ Tryz.underlying43 rfl rfl (qQg (qQb hW (qQe R4.out) R4.out) 0 C40.out)) ?_
   simp only [Act.put,pq1,pq2,pq3]
   refine qQc (by rfl) Z.out (fun W hW=>by go_simp;rfl) ?_
   simp only [Act.put,pq1,pq2,pq3]
   refine qQc (by rfl) Z.out (fun W hW=>qZU 43 (.tmp 25) (.tmp 26) rfl 9 Tryz.underlying43 T0.out T1.out b o m k j JQ.out .i64 _ rfl (by rw [←AE.out];rfl) rfl W) ?_
   simp only [Act.put,pq1,pq2,pq3]
   refine qQc (by rfl) Z.out (fun W hW=>qQq 9 (.tmp 27) rfl _ Tryz.underlying9 rfl rfl (qQL CX.out hW)) ?_
   simp only [Act.put,pq1,pq2,pq3]
   refine qQE (by rfl) (fun K hK=>?_)
   go_simp
   rw[CE.out,show(⟨#[119,114,97,112]⟩:ByteArray)=strB qZF from rfl]
   refine(qYw q HM.out A n c HN.out wd (((HR.out.keep B3.out).keep BW.out).keep Z.out) key qZF x HK.out (by decide) LX.out HL.out).mono ?_
   rw[←CE.out,←RE.out]
   rintro e w8 ⟨rfl,hb⟩
   rw[←S1.out,←BQ.out]
   have Z:=Lh (Z.out.trans (hb.mono Z.out.size))
   clear hb
   refine hK.out _ _ Z.out ?_
   clear hK K
   refine qQc (by rfl) Z.out (fun W hW=>by go_simp;rfl) ?_
   simp only [Act.put,pq1,pq2,pq3]
   refine qQc (by rfl) Z.out (fun W hW=>by go_simp;rfl) ?_
   simp only [Act.put,pq1,pq2,pq3]
   refine qQc (by rfl) Z.out (fun W hW=>by go_simp;rfl) ?_
   simp only [Act.put,pq1,pq2,pq3]
   refine qQc (by rfl) Z.out (fun W hW=>by go_simp;rfl) ?_
   simp only [Act.put,pq1,pq2,pq3]
   refine qQc (by rfl) Z.out (fun W hW=>by go_simp;rfl) ?_
   simp only [Act.put,pq1,pq2,pq3]
   refine qQG ?_
   have BN:=Lh (BW.out.trans (Z.out.mono BW.out.size))
   cases bq with
   | false=>
    have RN:=Lh (show r=none by have:=BQ.out;cases r with|none=>rfl|some _=>cases this)
    have UN:=Lh (UD.out.1 RN.out)
    go_wp2_with fail
    go_roundw
    case rel=>exact⟨j+1,JQ.out,by go_num,UN.out,BN.out⟩
    case measure=>have:=JQ.out;simp [intOf];omega
   | true=>
    have RS:=Lh (show r=some s by have:=BQ.out;have h2:=S1.out;cases r with|none=>cases this|some _=>rw [h2];rfl)
    have UN:=Lh (UD.out.2 s RS.out)
    have LS:=Lh (HT.out x XIN.out s (by rw [←RE.out];exact RS.out))
    obtain⟨sl,hsl⟩:∃sl,sl=s.length:=⟨_,rfl⟩
    have sz:(strB s).size=sl:=by rw [qQH,hsl]
    have SL:=Lh hsl.symm
    have sb:(sl:Int)≤100000:=by have:=LS.out;omega
    clear hsl
    by_cases h73:sl=73
    case neg=>
     have hE:((sl:Int) != 73)=true:=by simp;omega
     have UN:=Lh (show U=qZQ q key (xs.drop (j+1)) by rw [UN.out,qJy,decide_eq_false (by rw [SL.out];exact h73)];rfl)
     go_wp2_with fail
     go_roundw
     case rel=>exact⟨j+1,JQ.out,by go_num,UN.out,BN.out⟩
     case measure=>have:=JQ.out;simp [intOf];omega
    case pos=>
    have hE:((sl:Int) != 73)=false:=by simp;omega
    have S73:=Lh (show s.length=73 by rw [SL.out];exact h73)
    obtain⟨y,hy⟩:∃y,y=s.getD 40 0:=⟨_,rfl⟩
    have Y:=Lh hy
    have Y2:=Lh (show s[40]?.getD 0=y by rw [hy,kQa])
    clear hy
    by_cases hgt:1<y.toNat
    case pos=>
     have hF:decide ((y.toNat:Int)>1)=true:=by simp;omega
     have UN:=Lh (show U=qZQ q key (xs.drop (j+1)) by rw [UN.out,qJy,Y2.out,decide_eq_false (show ¬y≤1 from fun h=>absurd (kQb hgt (UInt8.le_iff_toNat_le.1 h)) (by decide))];simp)
     go_wp2_with (refine qQl (by rfl) (qQV 9 (.tmp 40) (.const (.int .i64 40)) rfl Tryz.underlying9 s 40 y Y.out (by rw [S73.out];decide) .i64 40 rfl rfl rfl _) ?_)
     go_roundw
     case rel=>exact⟨j+1,JQ.out,by go_num,UN.out,BN.out⟩
     case measure=>have:=JQ.out;simp [intOf];omega
    case neg=>
    have hF:decide ((y.toNat:Int)>1)=false:=by simp;omega
    have Y1:=Lh (show y≤1 from UInt8.le_iff_toNat_le.2 (Nat.le_of_not_lt hgt))
    obtain⟨yk,hyk⟩:∃yk,yk=qXW s:=⟨_,rfl⟩
    have YK:=Lh hyk
    have OY:=Lh (show OkK yk by rw [hyk,←qJx S73.out];exact qWP s)
    have UN:=Lh (show U=if qXh yk yk.w=s then(yk,0)else qZQ q key (xs.drop (j+1)) by
     rw[UN.out,qJy,Y2.out,decide_eq_true Y1.out,decide_eq_true S73.out,hyk]
     simp only [Bool.true_and,decide_eq_true_eq])
    have EV:=Lh (show(yk.e.toNat:Int)=(qXk (s.take 8):Int) by rw [hyk];exact beVal_u64 s (by rw [S73.out];decide))
    have WV:=Lh (show decide ((y.toNat:Int)=1)=yk.w by rw [hyk,qXW,Y2.out];exact decide_eq_decide.2 ⟨fun h=>UInt8.toNat_inj.1 (show y.toNat=1 by omega),fun h=>by rw [h];rfl⟩)
    obtain⟨ks,hks⟩:∃ks,ks=RowQ yk:=⟨_,rfl⟩
    have KE:=Lh hks
    have KZ2:=Lh (show(Tryz.prog.info? 47).map (·.size)=some ks.size by rw [hks];exact qZH _)
    have KO:=Lh (show ks.all (·.oneCell')=true by rw [hks];exact qX0 _)
    have K4:=Lh (show(RowQ kysE).size=ks.size by rw [hks];rfl)
    clear hyk hks hgt h73
    go_upto_region 6 with (refine qQl (by rfl) (qQV 9 (.tmp 40) (.const (.int .i64 40)) rfl Tryz.underlying9 s 40 y Y.out (by rw [S73.out];decide) .i64 40 rfl rfl rfl _) ?_)
    refine wp_region_list ?_
    simp only [kQf]
    refine qQa (by rfl) (by go_simp;rfl) ?_
    simp only [Act.put,pq1,pq2,pq3]
    refine qQa (by rfl) (run_newrd (.tmp 45) rfl s rfl _) ?_
    simp only [Act.put,pq1,pq2,pq3]
    refine qQs (by rfl) (fun K hK=>?_)
    go_simp
    refine(rnum8_any _ s 73 S73.out (by omega) (by omega)).mono ?_
    rw[←EV.out]
    obtain⟨rd,hrd⟩:∃rd:Array Value,rd=#[.string (strB (s.drop 8)),.int .i64 0]:=⟨_,rfl⟩
    have RZ:=Lh (show(Tryz.prog.info? 104).map (·.size)=some rd.size by rw [hrd];exact info_rd)
    have RO:=Lh (show rd.all (·.oneCell')=true by rw [hrd];simp [Value.oneCell'])
    have R2:=Lh (show(2:Nat)=rd.size by rw [hrd];rfl)
    rw[←hrd]
    rintro e w9 ⟨rfl,hb⟩
    have BN:=Lh (BN.out.trans (hb.mono BN.out.size))
    clear hb hrd
    refine hK.out _ _ ?_
    clear hK K
    go_upto_region 7 with (refine qQp rfl rfl 104 (.tmp 11) (.tmp 48) rfl rd rfl rfl RZ.out R2.out RO.out ?_)
    generalize hw10:World.alloc w9 _=w10
    have BN:=Lh (show Below w3.heap.size w3 w10 by rw [←hw10];exact BN.out.alloc BN.out.size _)
    have Z:=Lh (show Below w10.heap.size w10 w10.drew from(Below.refl _ _).drew)
    clear hw10
    refine qQu (fun W=>Below w10.heap.size w10 W) [(true,0),(true,1),(true,2),(true,3),(true,4),(true,5),(true,6),(true,7),(true,8),(false,9),(false,10)] (by kernel_rfl) (by kernel_rfl) (fun _ _ d _ _ h=>by cases d<;>exact h) ?_
    simp only [kQl,kQm,kQd,kQg,kQe,kQo]
    generalize World.drew w10=wv at *
    refine qQc (by rfl) Z.out (fun W hW=>by go_simp;rfl) ?_
    simp only [Act.put,pq1,pq2,pq3]
    refine qQc (by rfl) Z.out (fun W hW=>by go_simp;rfl) ?_
    simp only [Act.put,pq1,pq2,pq3]
    refine qQc (by rfl) Z.out (fun W hW=>qWa 9 (.tmp 51) (.const (.int .i64 8)) (.const (.int .i64 40)) rfl Tryz.underlying9 s 8 40 (by omega) (by rw [S73.out];omega) rfl .i64 .i64 8 40 rfl rfl rfl rfl W) ?_
    simp only [Act.put,pq1,pq2,pq3]
    refine qQc (by rfl) Z.out (fun W hW=>by go_simp;rfl) ?_
    simp only [Act.put,pq1,pq2,pq3]
    refine qQc (by rfl) Z.out (fun W hW=>qXw 9 (.tmp 53) (.const (.int .i64 41)) rfl Tryz.underlying9 s 41 (by rw [S73.out];omega) rfl rfl W) ?_
    simp only [Act.put,pq1,pq2,pq3]
    refine qQc (by rfl) Z.out (fun W hW=>by go_simp;rfl) ?_
    simp only [Act.put,pq1,pq2,pq3]
    refine qQc (by rfl) Z.out (fun W hW=>qQV 9 (.tmp 55) (.const (.int .i64 40)) rfl Tryz.underlying9 s 40 y Y.out (by rw [S73.out];decide) .i64 40 rfl rfl rfl W) ?_
    simp only [Act.put,pq1,pq2,pq3]
    refine qQc (by rfl) Z.out (fun W hW=>qKM 5 _ (.tmp 56) (.const (.int .u8 1)) rfl .u8 (y.toNat:Int) 1 yk.w WV.out rfl rfl W) ?_
    simp only [Act.put,pq1,pq2,pq3]
    refine qQc (by rfl) Z.out (fun W hW=>run_rk4 (.tmp 50) (.tmp 52) (.tmp 54) (.tmp 57) rfl yk rfl (by rw [YK.out];rfl) (by rw [YK.out];rfl) rfl W) ?_
    simp only [Act.put,pq1,pq2,pq3]
    rw[←KE.out]
    refine qQE (by rfl) (fun K hK=>?_)
    go_simp
    generalize hM:Array.size (World.heap wv)=M13
    generalize hwn:World.alloc wv _=wn
    have R13:=Lh (show wn.heap[M13]?=some (.cells (RowQ kysE) 47 (0,0)) by rw [←hwn];exact qQk _ _ _ hM.symm)
    have MG:=Lh (show w10.heap.size≤M13 by rw [←hM];exact Z.out.size)
    have Z:=Lh (show Below w10.heap.size w10 wn by rw [←hwn];exact Z.out.alloc Z.out.size _)
    clear hM hwn
    refine hK.out _ _ Z.out ?_
    clear hK K
    refine qQE (by rfl) (fun K hK=>?_)
    refine qQN 47 (.tmp 13) (.tmp 58) rfl M13 ks rfl rfl _ _ R13.out KZ2.out K4.out KO.out ?_
    intro wz hz hg _
    have R13:=Lh hz
    have Z:=Lh (show Below w10.heap.size w10 wz from Z.out.trans (qQi hg Z.out.size (by rintro g ⟨⟩;exact MG.out)))
    clear hz hg
    refine hK.out _ _ Z.out ?_
    clear hK K
    refine qQG ?_
    have BN:=Lh (show Below w3.heap.size w3 wz from BN.out.trans (Z.out.mono BN.out.size))
    go_upto_region 8 with fail
    refine wp_region_list ?_
    simp only [kQf]
    refine qQa (by rfl) (qQj 47 (.tmp 13) rfl M13 rfl 47 ks (0,0) _ R13.out Tryz.underlying47 rfl KZ2.out) ?_
    simp only [Act.put,pq1,pq2,pq3]
    refine qQa (by rfl) (by go_simp;rfl) ?_
    simp only [Act.put,pq1,pq2,pq3]
    refine qQa (by rfl) (qQq 4 (.tmp 60) rfl _ Tryz.underlying4 rfl rfl (qQg R13.out 3 (show ks[3]?=some (.bool yk.w) by rw [KE.out];rfl))) ?_
    simp only [Act.put,pq1,pq2,pq3]
    refine qQs (by rfl) (fun K hK=>?_)
    go_simp
    rw[KE.out]
    refine(rtext_any wz yk OY.out yk.w).mono ?_
    rw[←KE.out]
    obtain⟨T,hT⟩:∃T,T=qXh yk yk.w:=⟨_,rfl⟩
    have UN:=Lh (show U=if T=s then(yk,0)else qZQ q key (xs.drop (j+1)) by rw [hT];exact UN.out)
    rw[←hT]
    rintro e w11 ⟨rfl,hb⟩
    have BN:=Lh (BN.out.trans (hb.mono BN.out.size))
    have R13:=Lh (qQb hb (qQe R13.out) R13.out)
    clear hb hT
    refine hK.out _ _ ?_
    clear hK K
    refine qQa (by rfl) (by go_simp;rfl) ?_
    simp only [Act.put,pq1,pq2,pq3]
    by_cases ht:T=s
    ·as_aux_lemma=>
      have HT2:=Lh ht
      have UN:=Lh (show U=(yk,0) by rw [UN.out,if_pos ht])
      clear ht
      refine qQa (by rfl) (qZx 9 _ (.tmp 62) (.tmp 63) rfl T s HT2.out rfl rfl _) ?_
      simp only [Act.put,pq1,pq2,pq3]
      have R6:=Lh (qQb BN.out (qQe R6.out) R6.out)
      go_upto_region 9 with fail
      go_wp2_with (first
       | (refine qQa rfl (qQj 47 (.tmp 13) rfl M13 rfl 47 ks (0,0) _ R13.out Tryz.underlying47 rfl KZ2.out) ?_)
       | (refine qQf rfl rfl 47 (.tmp 6) (.tmp 65) rfl (w.heap.size+2) ks rfl rfl 47 (RowQ kysE) R6.out KZ2.out K4.out KO.out ?_;intro w12 hz12 hg12 hs12;clear hs12))
      refine qZP (w.heap.size+2) 47 ks _ rfl rfl rfl rfl hz12 Tryz.underlying47 rfl KZ2.out ⟨by rw [VU.out,EU.out,UN.out,KE.out];rfl,qQo (B3.out.trans (BN.out.mono B3.out.size)) hg12 (by omega)⟩
    ·as_aux_lemma=>
      have UN:=Lh (show U=qZQ q key (xs.drop (j+1)) by rw [UN.out,if_neg ht])
      refine qQa (by rfl) ((qXC 9 _ (.tmp 62) (.tmp 63) rfl T s rfl rfl _).trans (by rw [decide_eq_false ht])) ?_
      simp only [Act.put,pq1,pq2,pq3]
      go_wp2_with fail
      go_roundw
      case rel=>exact⟨j+1,JQ.out,by go_num,UN.out,BN.out⟩
      case measure=>have:=JQ.out;simp [intOf];omega
  ·have hD:decide ((j:Int)<(m:Int))=false:=by simp;omega
   have UN:=Lh (show U=(kysZ,13) by rw [HU.out,kQt (by rw [XM.out];omega)];rfl)
   have R6:=Lh (qQb BW.out (qQe R6.out) R6.out)
   go_upto_region 10 with fail
   refine wp_region_list ?_
   simp only [kQf]
   refine qQa (by rfl) (run_rkZ rfl _) ?_
   simp only [Act.put,pq1,pq2,pq3]
   refine qQf rfl rfl 47 (.tmp 6) (.tmp 66) rfl (w.heap.size+2) (RowQ kysE) rfl rfl 47 (RowQ kysE) R6.out KZ.out rfl (qX0 _) ?_
   intro w6 hz6 hg6 _
   go_wp2_with fail
   refine qZP (w.heap.size+2) 47 (RowQ kysE) _ rfl rfl rfl rfl hz6 Tryz.underlying47 rfl KZ.out ⟨by rw [VU.out,EU.out,UN.out];rfl,qQo (B3.out.trans (BW.out.mono B3.out.size)) hg6 (by omega)⟩
theorem mems_drop (l:List Mem) (h:∀z∈l,OkM z) (j:Nat) (z:Mem) (hj:l[j]?=some z):∃R,(l.map memL).flatten.drop (34*j)=memL z++R:=by
 induction l generalizing j with
 | nil=>simp at hj
 | cons q l ih=>
  rw[kQw,List.flatten_cons]
  cases j with
  | zero=>simp at hj;subst hj;exact⟨_,rfl⟩
  | succ j=>
   obtain⟨R,hR⟩:=ih (fun x hx=>h x (List.mem_cons_of_mem _ hx)) j (by simpa using hj)
   have hq:(memL q).length=34:=qJf (h q (List.mem_cons_self ..))
   refine⟨R,?_⟩
   rw[show 34*(j+1)=(memL q).length+34*j by omega,←List.drop_drop,List.drop_left,hR]
theorem dirL_drop (l:List Mem) (h:∀z∈l,OkM z) (j:Nat) (z:Mem) (hj:l[j]?=some z):∃R,(dirL l).drop (1+34*j)=memL z++R:=by
 obtain⟨R,hR⟩:=mems_drop l h j z hj
 have hjl:j<l.length:=(List.getElem?_eq_some_iff.1 hj).1
 have hl:=qWe l h
 refine⟨R++kQc (273-(1+34*l.length)) 0,?_⟩
 rw[dirL,List.append_assoc,show 1+34*j=[numB (l.length:Int)].length+34*j from rfl,←List.drop_drop,List.drop_left,List.drop_append_of_le_length (by omega),hR,List.append_assoc]
theorem dirL_zero (l:List Mem):(dirL l).getD 0 0=numB (l.length:Int):=rfl
theorem MemQK:SlK Tryz.prog 50 73 (.agg #[.int .i64 0,.string ⟨#[]⟩,.bool false]) 3 32:=⟨Tryz.underlying50,by kernel_rfl,rfl,by omega⟩
theorem run_rmem {o:Oper} {a:Act} (x0 x1 x2:Operand) (ho:o.op=.build 73 #[(0,x0),(1,x1),(2,x2)]) (z:Mem) (h0:a.eval x0=.int .i64 z.n) (h1:a.eval x1=.string (strB z.k)) (h2:a.eval x2=.bool z.o) (W:World) :
  (execOp a.eval o).run Tryz.prog W=.ok (.value (.agg (RowN z).toArray)) W:=by
 have h:∀(z:Int) (s:ByteArray) (b:Bool) (W:World),(Instr.build 73 #[(0,.int .i64 z),(1,.string s),(2,.bool b)]).run Tryz.prog W=.ok (.agg #[.int .i64 z,.string s,.bool b]) W:=by
  intro z s b W
  kernel_rfl
 unfold execOp
 simp only [ho,kQs,kQw,List.map_nil,h0,h1,h2,Sem.run_bind,h,Result.andThen_ok,Sem.run_pure]
 rfl
theorem build_rmems:∀(x y z:Value) (W:World),(Instr.buildSlice 50 1 #[(0,.agg #[x,y,z])]).run Tryz.prog W=.ok (.slice (some ⟨W.heap.size,0,none⟩) 1 1) (W.alloc (.cells #[x,y,z] 73)):=by
 intros
 kernel_rfl
section
variable {o:Oper} {a:Act} {Q:Exit→Act→World→Prop} {K:Act→World→Prop} {W:World}
theorem wp_rmem1 (x:Operand) (z:Mem) (ho:o.op=.buildSlice 50 1 #[(0,x)]) (hx:a.eval x=.agg (RowN z).toArray) (h:K (a.put o.dst (.slice (some ⟨W.heap.size,0,none⟩) 1 1)) (W.alloc (.cells (RowN z).toArray 73))):o.wp Tryz.prog a W K Q:=by
 have h1:=build_rmems (.int .i64 z.n) (.string (strB z.k)) (.bool z.o) W
 have h2:(RowN z).toArray=#[.int .i64 z.n,.string (strB z.k),.bool z.o]:=rfl
 rw[h2]at h hx
 unfold Oper.wp execOp
 simp only [ho,kQs,kQw,List.map_nil,hx,Sem.run_bind,Sem.run_pure,h1,Result.andThen_ok]
 exact h
end
theorem EM_take {l:List Mem} {j:Nat} {z:Mem} (h:l[j]?=some z):EM (l.take (j+1))=EM (l.take j)++RowN z:=by
 rw[List.take_add_one,h,EM_append];simp [EM]
theorem qW2 (w:World) (A:Option Addr) (n c:Nat) (zs:List Mem) (hn:zs.length=n) (R:RdM w A zs) (h20:n≤20) :
  Calls Tryz.prog 9 #[.slice A n c] w fun e w'=>∃A' c',e=.returned (.slice A' n c')∧RdV w' A' (EM zs)∧n≤c'∧(∀a,A'=some a→w.heap.size≤a.block∧a.block<w'.heap.size)∧Below w.heap.size w w':=by
 have HR:=Lh R
 have Q1:=Lh hn
 have N20:=Lh h20
 have b0:(n:Int)≤20:=by omega
 clear R hn h20
 go_enter Tryz.func9,Tryz.ntmps9
 go_wp2_with fail
 go_loopw [3,4] (fun v i wr=>∃j:Nat,j≤n∧i=.int .i64 (j:Int)∧OwnK wr w.heap.size 73 3 v j (EM (zs.take j))∧Below w.heap.size w wr) (fun _ i _=>n-(intOf i).toNat)
 case atStart=>exact⟨0,Nat.zero_le _,rfl,by rw [List.take_zero];exact OwnK.nil _ _ _ _,Below.refl _ _⟩
 case round=>
  obtain⟨j,hj,rfl,ho,hb⟩:=hrel
  have J:=Lh hj
  have O:=Lh ho
  have BW:=Lh hb
  clear hj ho hb
  obtain⟨wp,rfl⟩:∃wp:World,wp=wr:=⟨_,rfl⟩
  by_cases hlt:j<n
  ·have hD:decide ((j:Int)<(n:Int))=true:=by simp;omega
   have hE:decide ((j:Int)<20)=true:=by simp;have:=N20.out;omega
   have jb:(j:Int)<20:=by have:=N20.out;omega
   have JQ:=Lh hlt
   obtain⟨z,b,o,hz,hok,hA,hr⟩:=HR.out.at (show j<zs.length by rw [Q1.out];exact hlt)
   have AE:=Lh hA
   have OK:=Lh hok
   have TK:=Lh (EM_take hz)
   have MSD:=Lh (qQ4 hr BW.out)
   have Z:=Lh (show Below w.heap.size w wp.drew from BW.out.drew)
   have BLT:=Lh (show b<w.heap.size from cell_lt (hr 0 _ rfl))
   have MSD:=Lh (show wp.drew.rangeAt b (o+j*34) (RowM z)from MSD.out)
   have O:=Lh (O.out.below (show Below wp.heap.size wp wp.drew from(Below.refl _ _).drew))
   clear hz hok hA hr
   go_upto_region 5 with fail
   refine qQu (fun W=>W.rangeAt b (o+j*34) (RowM z)) [(true,0),(true,1),(true,2),(true,3),(true,4),(true,5),(true,6),(true,7),(true,8),(true,9),(true,10),(true,11),(true,12),(true,13),(true,14),(true,15),(true,16),(true,17),(false,18),(false,19),(true,20)] (by kernel_rfl) (by kernel_rfl) (fun _ _ d _ _ h=>by cases d<;>exact h) ?_
   simp only [kQl,kQm,kQd,kQg,kQe,kQo]
   generalize World.drew wp=wd at *
   refine qQc (by rfl) MSD.out (fun W hW=>by go_simp;rfl) ?_
   simp only [Act.put,pq1,pq2,pq3]
   refine qQc (by rfl) MSD.out (fun W hW=>by go_simp;rfl) ?_
   simp only [Act.put,pq1,pq2,pq3]
   refine qQc (by rfl) MSD.out (fun W hW=>by go_simp;rfl) ?_
   simp only [Act.put,pq1,pq2,pq3]
   refine qQc (by rfl) MSD.out (fun W hW=>qQr 23 (.tmp 16) (.tmp 17) rfl 63 Tryz.underlying23 34 qZC b o n c j JQ.out .i64 _ rfl (by rw [←AE.out];rfl) rfl W) ?_
   simp only [Act.put,pq1,pq2,pq3]
   refine qQc (by rfl) MSD.out (fun W hW=>by go_simp;rfl) ?_
   simp only [Act.put,pq1,pq2,pq3]
   refine qQc (by rfl) MSD.out (fun W hW=>qQq 3 (.tmp 19) rfl _ Tryz.underlying3 rfl rfl (hW 0 _ rfl)) ?_
   simp only [Act.put,pq1,pq2,pq3]
   refine qQc (by rfl) MSD.out (fun W hW=>by go_simp;rfl) ?_
   simp only [Act.put,pq1,pq2,pq3]
   refine qQc (by rfl) MSD.out (fun W hW=>by go_simp;rfl) ?_
   simp only [Act.put,pq1,pq2,pq3]
   refine qQc (by rfl) MSD.out (fun W hW=>qQr 23 (.tmp 21) (.tmp 22) rfl 63 Tryz.underlying23 34 qZC b o n c j JQ.out .i64 _ rfl (by rw [←AE.out];rfl) rfl W) ?_
   simp only [Act.put,pq1,pq2,pq3]
   refine qQc (by rfl) MSD.out (fun W hW=>by go_simp;rfl) ?_
   simp only [Act.put,pq1,pq2,pq3]
   refine qQc (by rfl) MSD.out (fun W hW=>qZA 38 (.tmp 24) rfl 32 5 Tryz.underlying38 rfl b (o+j*34+1) rfl W) ?_
   simp only [Act.put,pq1,pq2,pq3]
   refine qQc (by rfl) MSD.out (fun W hW=>qZo 22 9 (.tmp 25) rfl Tryz.underlying22 Tryz.underlying5 Tryz.underlying9 (RdB.range (qWM hW)) 32 32 OK.out.1 rfl) ?_
   simp only [Act.put,pq1,pq2,pq3]
   refine qQc (by rfl) MSD.out (fun W hW=>by go_simp;rfl) ?_
   simp only [Act.put,pq1,pq2,pq3]
   refine qQc (by rfl) MSD.out (fun W hW=>by go_simp;rfl) ?_
   simp only [Act.put,pq1,pq2,pq3]
   refine qQc (by rfl) MSD.out (fun W hW=>qQr 23 (.tmp 27) (.tmp 28) rfl 63 Tryz.underlying23 34 qZC b o n c j JQ.out .i64 _ rfl (by rw [←AE.out];rfl) rfl W) ?_
   simp only [Act.put,pq1,pq2,pq3]
   refine qQc (by rfl) MSD.out (fun W hW=>by go_simp;rfl) ?_
   simp only [Act.put,pq1,pq2,pq3]
   refine qQc (by rfl) MSD.out (fun W hW=>qQq 4 (.tmp 30) rfl _ Tryz.underlying4 rfl rfl (hW 33 _ (by have:=rowM_o OK.out.1;rwa [kQd]at this))) ?_
   simp only [Act.put,pq1,pq2,pq3]
   refine qQc (by rfl) MSD.out (fun W hW=>run_rmem (.tmp 20) (.tmp 26) (.tmp 31) rfl z rfl rfl rfl W) ?_
   simp only [Act.put,pq1,pq2,pq3]
   refine qQE (by rfl) (fun K hK=>?_)
   refine wp_rmem1 (.tmp 32) z rfl rfl ?_
   generalize hN:Array.size (World.heap wd)=N5
   generalize hwn:World.alloc wd _=wn
   have bn:Below wd.heap.size wd wn:=by rw [←hwn];exact qQh _ _
   have RN:=Lh (show RdV wn (some ⟨N5,0,none⟩) (RowN z)from RdV.row (t:=73) (fr:=(0,0)) (by rw [←hwn];exact qQk _ _ _ hN.symm))
   have O:=Lh (O.out.below bn)
   have Z:=Lh (show Below w.heap.size w wn from Z.out.trans (bn.mono Z.out.size))
   have MSD:=Lh (qQ4 MSD.out bn)
   clear hN hwn bn
   refine hK.out _ _ MSD.out ?_
   clear hK K
   refine qQE (by rfl) (fun K hK=>?_)
   refine qJl MemQK (.tmp 15) (.tmp 33) rfl w.heap.size _ j (EM (zs.take j)) (RowN z) (some ⟨N5,0,none⟩) 1 1 rfl rfl rfl O.out RN.out (by intro u hu;simp only [RowN,List.mem_cons,List.mem_nil_iff,or_false]at hu;rcases hu with rfl|rfl|rfl<;>rfl) Z.out.size (by omega) (by omega) ?_
   intro v9 w9 ho hg hat
   have Z:=Lh (show Below w.heap.size w w9 from Z.out.trans (qQi hg Z.out.size (fun g e=>(O.out.lt g e).1)))
   have MSD:=Lh (show w9.rangeAt b (o+j*34) (RowM z)from fun i v hi=>hg.cell (MSD.out i v hi) (fun e=>by have:=(O.out.lt b e.symm).1;have:=BLT.out;omega))
   have O:=Lh (show OwnK w9 w.heap.size 73 3 v9 (j+1) (EM (zs.take (j+1))) by rw [TK.out];exact ho)
   clear ho hg hat
   refine hK.out _ _ MSD.out ?_
   clear hK K
   refine qQc (by rfl) MSD.out (fun W hW=>by go_simp;rfl) ?_
   simp only [Act.put,pq1,pq2,pq3]
   refine qQG ?_
   go_wp2_with fail
   go_roundw
   case rel=>exact⟨j+1,JQ.out,by go_num,O.out,Z.out⟩
   case measure=>have:=JQ.out;simp [intOf];omega
  ·have hD:decide ((j:Int)<(n:Int))=false:=by simp;omega
   have JE:=Lh (show j=n by have:=J.out;omega)
   obtain⟨_,A',c',rfl,hrv,hcr,_,hlo⟩:=O.out.read
   have RV:=Lh (show RdV wp A' (EM zs) by rw [JE.out,←Q1.out,List.take_length]at hrv;exact hrv)
   have CR:=Lh (show n≤c' by have:=JE.out;omega)
   have LO:=Lh hlo
   clear hrv hcr hlo
   go_wp2_with fail
   go_ret
   exact⟨A',c',by rw [←JE.out];rfl,RV.out,CR.out,LO.out,BW.out⟩
theorem rmembers_any (w:World) (q:RBx) (hm:q.mode=0∨q.mode=1) (A:Option Addr) (n c:Nat) (hn:q.L.length=n) (hR:RdV w A (EC q.L)) (hL:n≤10000) (B:Option Addr) (m k:Nat) (d:List UInt8) (hd:d.length≤1000)
  (key:List UInt8) (hk:key.length=32) (zs:List Mem) (hck:qZd zs=true) (hz:∀z∈zs,OkM z) (nm:Nat) (hnm:zs.length=nm) (ho:qXU q key dirB d=some (dirL zs)) :
  Calls Tryz.prog 20 #[.agg (RBC q.mode q.F q.u A n c),.agg #[.slice B m k,.string (strB d)],.string (strB key)] w fun e w'=>∃A' c',e=.returned (.tuple #[.slice A' nm c',.int .i64 0])∧RdV w' A' (EM zs)∧nm≤c'∧(∀a,A'=some a→w.heap.size≤a.block∧a.block<w'.heap.size)∧Below w.heap.size w w':=by
 have HM:=Lh hm
 have HN:=Lh hn
 have HR:=Lh hR
 have HL:=Lh hL
 have HK:=Lh hk
 have DL:=Lh hd
 have CK:=Lh hck
 have SP:=Lh (qZN hck)
 have HZ:=Lh hz
 have NM:=Lh hnm
 have N8:=Lh (show nm≤8 by rw [←hnm];exact(qZN hck).1)
 have nb8:(nm:Int)≤8:=by have:=N8.out;omega
 have nb0:decide ((nm:Int)>8)=false:=by simp;omega
 obtain⟨cs,hcs⟩:∃cs,cs=RBC q.mode q.F q.u A n c:=⟨_,rfl⟩
 obtain⟨rs,hrs⟩:∃rs:Array Value,rs=#[.slice B m k,.string (strB d)]:=⟨_,rfl⟩
 obtain⟨T,hT⟩:∃T,T=dirL zs:=⟨_,rfl⟩
 rw[←hcs,←hrs]
 rw[←hT]at ho
 have OP:=Lh ho
 have CE:=Lh hcs
 have SE:=Lh hrs
 have TE:=Lh hT
 have TL:=Lh (show T.length=273 by rw [hT];exact qXu hz (qZN hck).1)
 have sz:(strB T).size=273:=by rw [qQH,TL.out]
 have T0:=Lh (show((T.getD 0 0).toNat:Int)=(nm:Int) by rw [hT,dirL_zero,hnm];exact qKs (by omega) (by have:=N8.out;omega))
 have CZ:=Lh (show(Tryz.prog.info? 32).map (·.size)=some cs.size by rw [hcs];exact qQK)
 clear hm hn hR hL hk hd hck hz hnm ho hcs hrs hT
 go_enter Tryz.func20,Tryz.ntmps20
 go_upto_region 1 with fail
 generalize hw1:World.alloc w _=w1
 generalize hw2:World.alloc w1 _=w2
 have z1:w1.heap.size=w.heap.size+1:=by rw [←hw1,qQD]
 have b12:Below w1.heap.size w1 w2:=by rw [←hw2];exact qQh _ _
 have B3:=Lh (show Below w.heap.size w w2 by
  have b1:Below w.heap.size w w1:=by rw [←hw1];exact qQh _ _
  exact b1.trans (b12.mono b1.size))
 have R3:=Lh (show w2.heap[w.heap.size]?=some (.cells cs 32 (0,0))from qQb b12 (by omega) (by rw [←hw1];exact qQk _ _ _ rfl))
 have R4:=Lh (show w2.heap[w.heap.size+1]?=some (.cells rs 45 (0,0)) by rw [←hw2];exact qQk _ _ _ z1.symm)
 clear b12 hw1 hw2 z1
 refine wp_region_list ?_
 simp only [kQf]
 refine qQa (by rfl) (qQj 32 (.tmp 3) rfl w.heap.size rfl 32 cs (0,0) _ R3.out Tryz.underlying32 rfl CZ.out) ?_
 simp only [Act.put,pq1,pq2,pq3]
 refine qQa (by rfl) (by go_simp;rfl) ?_
 simp only [Act.put,pq1,pq2,pq3]
 refine qQa (by rfl) (by go_simp;rfl) ?_
 simp only [Act.put,pq1,pq2,pq3]
 refine qQa (by rfl) (qQq 9 (.tmp 16) rfl _ Tryz.underlying9 rfl rfl (qQg R4.out 1 (show rs[1]?=some (.string (strB d)) by rw [SE.out];rfl))) ?_
 simp only [Act.put,pq1,pq2,pq3]
 refine qQs (by rfl) (fun K hK=>?_)
 go_simp
 rw[CE.out,show(⟨#[100,105,114]⟩:ByteArray)=strB dirB from rfl]
 refine(qYw q HM.out A n c HN.out w2 (HR.out.keep B3.out) key dirB d HK.out (by decide) DL.out HL.out).mono ?_
 rw[←CE.out,OP.out]
 rintro e w3 ⟨rfl,hb⟩
 simp only [Option.getD_some,Option.isSome_some]
 have B3:=Lh (B3.out.trans (hb.mono B3.out.size))
 clear hb
 refine hK.out _ _ ?_
 clear hK K
 go_wp2_with (refine qQl (by rfl) ((qQV 9 (.tmp 27) (.const (.int .i64 0)) rfl Tryz.underlying9 T 0 _ rfl (by rw [TL.out];decide) .i64 0 rfl rfl rfl _).trans (by rw [T0.out])) ?_)
 go_loopw [10,11] (fun v i wr=>∃j:Nat,j≤nm∧i=.int .i64 (j:Int)∧OwnK wr w.heap.size 73 3 v j (EM (zs.take j))∧Below w.heap.size w wr) (fun _ i _=>nm-(intOf i).toNat)
 case atStart=>exact⟨0,Nat.zero_le _,rfl,by rw [List.take_zero];exact OwnK.nil _ _ _ _,B3.out⟩
 case round=>
  obtain⟨j,hj,rfl,ho,hb⟩:=hrel
  have J:=Lh hj
  have O:=Lh ho
  have BW:=Lh hb
  clear hj ho hb
  obtain⟨wp,rfl⟩:∃wp:World,wp=wr:=⟨_,rfl⟩
  have jb:(j:Int)≤8:=by have:=J.out;omega
  by_cases hlt:j<nm
  ·have hD:decide ((j:Int)<(nm:Int))=true:=by simp;omega
   have JQ:=Lh hlt
   obtain⟨z,hz⟩:∃z,zs[j]?=some z:=⟨_,kQi (by rw [NM.out];exact hlt)⟩
   have OK:=Lh (HZ.out z (kQu hz))
   have ZN:=Lh (SP.out.2 z (kQu hz))
   have zn0:0≤z.n:=ZN.out.1
   have zn1:z.n≤255:=ZN.out.2
   have zw:IntKind.i64.wrap z.n=z.n:=by rw [IntKind.wrap_i64];omega
   have TK:=Lh (EM_take hz)
   obtain⟨R,hR⟩:=dirL_drop zs HZ.out j z hz
   obtain⟨X,hX⟩:∃X,X=T.drop (1+34*j):=⟨_,rfl⟩
   have XE:=Lh (show X=memL z++R by rw [hX,TE.out,hR])
   have XL:=Lh (show 34≤X.length by rw [XE.out,kQj,qJf OK.out];omega)
   have X0:=Lh (show((X.getD 0 0).toNat:Int)=z.n by rw [XE.out];exact qKs zn0 zn1)
   have X1:=Lh (show decide (((X.getD 1 0).toNat:Int)=1)=z.o by rw [XE.out];show decide (((qJk z.o).toNat:Int)=1)=z.o;cases z.o<;>rfl)
   have X2:=Lh (show(X.drop 2).take (34-2)=z.k by rw [XE.out];show(z.k++R).take 32=z.k;rw [←OK.out.1,List.take_left])
   have XD:=Lh hX
   have Z:=Lh (show Below w.heap.size w wp.drew from BW.out.drew)
   have O:=Lh (O.out.below (show Below wp.heap.size wp wp.drew from(Below.refl _ _).drew))
   clear hz hR hX
   go_upto_region 11 with (first
    | (refine qQa rfl ((qQV 9 (.tmp 32) (.const (.int .i64 0)) rfl Tryz.underlying9 T 0 _ rfl (by rw [TL.out];decide) .i64 0 rfl rfl rfl _).trans (by rw [T0.out])) ?_)
    | (refine qQa rfl ((qXw 9 (.tmp 38) (.tmp 41) rfl Tryz.underlying9 T (1+34*j) (by rw [TL.out];have:=N8.out;have:=JQ.out;omega) rfl rfl _).trans (by rw [←XD.out])) ?_))
   refine qQu (fun _=>True) [(true,0),(true,1),(true,2),(true,3),(true,4),(true,5),(true,6),(true,7),(true,8),(true,9),(false,10),(false,11),(true,12)] (by kernel_rfl) (by kernel_rfl) (fun _ _ d _ _ h=>by cases d<;>exact h) ?_
   simp only [kQl,kQm,kQd,kQg,kQe,kQo]
   generalize World.drew wp=wd at *
   refine qQc (by rfl) (trivial) (fun W hW=>by go_simp;rfl) ?_
   simp only [Act.put,pq1,pq2,pq3]
   refine qQc (by rfl) (trivial) (fun W hW=>by go_simp;rfl) ?_
   simp only [Act.put,pq1,pq2,pq3]
   refine qQc (by rfl) (trivial) (fun W hW=>(qQV 9 (.tmp 44) (.const (.int .i64 0)) rfl Tryz.underlying9 X 0 _ rfl (by have:=XL.out;omega) .i64 0 rfl rfl rfl W).trans (by rw [X0.out])) ?_
   simp only [Act.put,pq1,pq2,pq3]
   refine qQc (by rfl) (trivial) (fun W hW=>by go_simp;rfl) ?_
   simp only [Act.put,pq1,pq2,pq3]
   refine qQc (by rfl) (trivial) (fun W hW=>by go_simp;rfl) ?_
   simp only [Act.put,pq1,pq2,pq3]
   refine qQc (by rfl) (trivial) (fun W hW=>(qWa 9 (.tmp 47) (.const (.int .i64 2)) (.const (.int .i64 34)) rfl Tryz.underlying9 X 2 34 (by omega) XL.out rfl .i64 .i64 2 34 rfl rfl rfl rfl W).trans (by rw [X2.out])) ?_
   simp only [Act.put,pq1,pq2,pq3]
   refine qQc (by rfl) (trivial) (fun W hW=>by go_simp;rfl) ?_
   simp only [Act.put,pq1,pq2,pq3]
   refine qQc (by rfl) (trivial) (fun W hW=>qQV 9 (.tmp 49) (.const (.int .i64 1)) rfl Tryz.underlying9 X 1 _ rfl (by have:=XL.out;omega) .i64 1 rfl rfl rfl W) ?_
   simp only [Act.put,pq1,pq2,pq3]
   refine qQc (by rfl) (trivial) (fun W hW=>qKM 5 _ (.tmp 50) (.const (.int .u8 1)) rfl .u8 ((X.getD 1 0).toNat:Int) 1 z.o X1.out rfl rfl W) ?_
   simp only [Act.put,pq1,pq2,pq3]
   refine qQc (by rfl) (trivial) (fun W hW=>run_rmem (.tmp 46) (.tmp 48) (.tmp 51) rfl z rfl rfl rfl W) ?_
   simp only [Act.put,pq1,pq2,pq3]
   refine qQE (by rfl) (fun K hK=>?_)
   refine wp_rmem1 (.tmp 52) z rfl rfl ?_
   generalize hN:Array.size (World.heap wd)=N5
   generalize hwn:World.alloc wd _=wn
   have bn:Below wd.heap.size wd wn:=by rw [←hwn];exact qQh _ _
   have RN:=Lh (show RdV wn (some ⟨N5,0,none⟩) (RowN z)from RdV.row (t:=73) (fr:=(0,0)) (by rw [←hwn];exact qQk _ _ _ hN.symm))
   have O:=Lh (O.out.below bn)
   have Z:=Lh (show Below w.heap.size w wn from Z.out.trans (bn.mono Z.out.size))
   clear hN hwn bn
   refine hK.out _ _ (trivial) ?_
   clear hK K
   refine qQE (by rfl) (fun K hK=>?_)
   refine qJl MemQK (.tmp 43) (.tmp 53) rfl w.heap.size _ j (EM (zs.take j)) (RowN z) (some ⟨N5,0,none⟩) 1 1 rfl rfl rfl O.out RN.out (by intro u hu;simp only [RowN,List.mem_cons,List.mem_nil_iff,or_false]at hu;rcases hu with rfl|rfl|rfl<;>rfl) Z.out.size (by omega) (by omega) ?_
   intro v9 w9 ho hg hat
   have Z:=Lh (show Below w.heap.size w w9 from Z.out.trans (qQi hg Z.out.size (fun g e=>(O.out.lt g e).1)))
   have O:=Lh (show OwnK w9 w.heap.size 73 3 v9 (j+1) (EM (zs.take (j+1))) by rw [TK.out];exact ho)
   clear ho hg hat
   refine hK.out _ _ (trivial) ?_
   clear hK K
   refine qQc (by rfl) (trivial) (fun W hW=>by go_simp;rfl) ?_
   simp only [Act.put,pq1,pq2,pq3]
   refine qQG ?_
   go_wp2_with fail
   go_roundw
   case rel=>exact⟨j+1,JQ.out,by go_num,O.out,Z.out⟩
   case measure=>have:=JQ.out;simp [intOf];omega
  ·have hD:decide ((j:Int)<(nm:Int))=false:=by simp;omega
   have JE:=Lh (show j=nm by have:=J.out;omega)
   obtain⟨_,A',c',rfl,hrv,hcr,_,hlo⟩:=O.out.read
   have RV:=Lh (show RdV wp A' (EM zs) by rw [JE.out,←NM.out,List.take_length]at hrv;exact hrv)
   have CR:=Lh (show nm≤c' by have:=JE.out;omega)
   have LO:=Lh hlo
   clear hrv hcr hlo
   go_wp2_with (refine qQa rfl ((qQV 9 (.tmp 32) (.const (.int .i64 0)) rfl Tryz.underlying9 T 0 _ rfl (by rw [TL.out];decide) .i64 0 rfl rfl rfl _).trans (by rw [T0.out])) ?_)
   refine(qVL wp A' j c' zs (by rw [NM.out,JE.out]) RV.out (by have:=J.out;have:=N8.out;omega)).mono ?_
   rw[show chk zs=0 by rw [chk,if_pos CK.out]]
   rintro e w4 ⟨rfl,hb⟩
   have B4:=Lh hb
   clear hb
   go_wp2_with fail
   refine(rdir_any w4 A' j c' zs (by rw [NM.out,JE.out]) (RV.out.keep B4.out) (by have:=J.out;have:=N8.out;omega) (fun z hz=>⟨HZ.out z hz,SP.out.2 z hz⟩)).mono ?_
   rw[←TE.out]
   rintro e w5 ⟨rfl,hb⟩
   have B5:=Lh (B4.out.trans (hb.mono B4.out.size))
   clear hb
   go_wp2_with (refine qQl (by rfl) (qXo 9 _ (.tmp 60) (.tmp 61) rfl T T rfl rfl rfl _) ?_)
   go_ret2
   exact⟨A',c',by rw [←JE.out];rfl,RV.out.keep B5.out,CR.out,fun a e=>⟨(LO.out a e).1,kQb (LO.out a e).2 B5.out.size⟩,BW.out.trans (B5.out.mono BW.out.size)⟩
theorem keys_any (w:World) (y:Kys) (hy:OkK y):Calls Tryz.prog 14 #[.agg (RowK y).toArray] w fun e w'=>e=.returned (.agg (RowQ y))∧Below w.heap.size w w':=by
 have HY:=Lh hy
 obtain⟨cs,hcs⟩:∃cs,cs=RowK y:=⟨_,rfl⟩
 rw[←hcs]
 have CE:=Lh hcs
 have CL:=Lh (show(Tryz.prog.info? 40).map (·.size)=some cs.length by rw [hcs,qXP hy];exact qKv)
 obtain⟨ks,hks⟩:∃ks,ks=RowQ y:=⟨_,rfl⟩
 rw[←hks]
 have KE:=Lh hks
 have KZ:=Lh (show(Tryz.prog.info? 47).map (·.size)=some ks.size by rw [hks];exact qZH _)
 have KO:=Lh (show ks.all (·.oneCell')=true by rw [hks];exact qX0 _)
 have K4:=Lh (show(RowQ kysE).size=ks.size by rw [hks];rfl)
 clear hy hcs hks
 go_enter Tryz.func14,Tryz.ntmps14
 go_upto_region 1 with fail
 generalize hM:Array.size (World.heap w)=M
 generalize hw1:World.alloc w _=w1
 generalize hw2:World.alloc w1 _=w2
 have z1:w1.heap.size=M+1:=by rw [←hw1,qQD,hM]
 have b2:Below w1.heap.size w1 w2:=by rw [←hw2];exact qQh _ _
 have B:=Lh (show Below w.heap.size w w2.drew by
  have b1:Below w.heap.size w w1:=by rw [←hw1];exact qQh _ _
  exact(b1.trans (b2.mono b1.size)).drew)
 have R1:=Lh (show w2.drew.heap[M]?=some (.cells cs.toArray 40 (0,0))from(show w2.heap[M]?=_ from qQb b2 (by omega) (by rw [←hw1];exact qQk _ _ _ hM.symm)))
 have R2:=Lh (show w2.drew.heap[M+1]?=some (.cells (RowQ kysE) 47 (0,0))from(show w2.heap[M+1]?=_ by rw [←hw2];exact qQk _ _ _ z1.symm))
 have ME:=Lh hM
 clear hM hw1 hw2 z1 b2
 refine qQu (fun W=>W.heap[M]?=some (.cells cs.toArray 40 (0,0))) [(true,0),(true,1),(true,2),(true,3),(true,4),(true,5),(true,6),(true,7),(true,8),(true,9),(true,10),(false,11)] (by kernel_rfl) (by kernel_rfl) (fun _ _ d _ _ h=>by cases d<;>exact h) ?_
 simp only [kQl,kQm,kQd,kQg,kQe,kQo]
 generalize World.drew w2=wd at *
 refine qQc (by rfl) R1.out (fun W hW=>by go_simp;rfl) ?_
 simp only [Act.put,pq1,pq2,pq3]
 refine qQc (by rfl) R1.out (fun W hW=>qQq 36 (.tmp 3) rfl _ Tryz.underlying36 rfl rfl (qQg hW 0 (show cs.toArray[0]?=some (.int .u64 (y.e.toNat:Int)) by rw [CE.out];rfl))) ?_
 simp only [Act.put,pq1,pq2,pq3]
 refine qQc (by rfl) R1.out (fun W hW=>by go_simp;rfl) ?_
 simp only [Act.put,pq1,pq2,pq3]
 refine qQc (by rfl) R1.out (fun W hW=>qZA 38 (.tmp 5) rfl 32 5 Tryz.underlying38 rfl M 1 rfl W) ?_
 simp only [Act.put,pq1,pq2,pq3]
 refine qQc (by rfl) R1.out (fun W hW=>qZo 22 9 (.tmp 6) rfl Tryz.underlying22 Tryz.underlying5 Tryz.underlying9 (show RdB W (some ⟨M,1,none⟩) y.k by have:=RdB.range (rangeK_k (show W.rangeAt M 0 (RowK y) by rw [←CE.out];exact qQ5 hW));rwa [Nat.zero_add]at this) 32 32 HY.out.1 rfl) ?_
 simp only [Act.put,pq1,pq2,pq3]
 refine qQc (by rfl) R1.out (fun W hW=>by go_simp;rfl) ?_
 simp only [Act.put,pq1,pq2,pq3]
 refine qQc (by rfl) R1.out (fun W hW=>qZA 38 (.tmp 8) rfl 32 5 Tryz.underlying38 rfl M 33 rfl W) ?_
 simp only [Act.put,pq1,pq2,pq3]
 refine qQc (by rfl) R1.out (fun W hW=>qZo 22 9 (.tmp 9) rfl Tryz.underlying22 Tryz.underlying5 Tryz.underlying9 (show RdB W (some ⟨M,33,none⟩) y.o by have:=RdB.range (qVN (show W.rangeAt M 0 (RowK y) by rw [←CE.out];exact qQ5 hW) HY.out.1);rwa [Nat.zero_add]at this) 32 32 HY.out.2 rfl) ?_
 simp only [Act.put,pq1,pq2,pq3]
 refine qQc (by rfl) R1.out (fun W hW=>by go_simp;rfl) ?_
 simp only [Act.put,pq1,pq2,pq3]
 refine qQc (by rfl) R1.out (fun W hW=>qQq 4 (.tmp 11) rfl _ Tryz.underlying4 rfl rfl (qQg hW 65 (show cs.toArray[65]?=some (.bool y.w) by rw [CE.out];exact rowK_w HY.out))) ?_
 simp only [Act.put,pq1,pq2,pq3]
 refine qQc (by rfl) R1.out (fun W hW=>run_rk4 (.tmp 4) (.tmp 7) (.tmp 10) (.tmp 12) rfl y rfl rfl rfl rfl W) ?_
 simp only [Act.put,pq1,pq2,pq3]
 rw[←KE.out]
 refine qQE (by rfl) (fun K hK=>?_)
 refine qQN 47 (.tmp 2) (.tmp 13) rfl (M+1) ks rfl rfl _ _ R2.out KZ.out K4.out KO.out ?_
 intro wz hz hg _
 have R1:=Lh (qQd hg (by intro e;injection e with e;omega) R1.out)
 have R2:=Lh hz
 have B:=Lh (qQo B.out hg (by rw [ME.out];omega))
 clear hz hg
 refine hK.out _ _ R1.out ?_
 clear hK K
 refine qQG ?_
 go_wp2_with fail
 refine bodyPost_ret (results_cell_row rfl _ _ (M+1) 47 ks (0,0) _ rfl R2.out Tryz.underlying47 rfl KZ.out) rfl ⟨rfl,B.out⟩
theorem info_one_sl:∃ti,Tryz.prog.info? 22=some ti∧ti.size=1:=Option.map_eq_some_iff.1 (show(Tryz.prog.info? 22).map (·.size)=some 1 by kernel_rfl)
theorem like_any (w:World) (base:Nat) (v:Value) (xs:List (List UInt8)) (d:List UInt8) (hv:RgB base w v xs d) (B:Option Addr) (m k:Nat) (hB:RdV w B (SX xs)) (hm:xs.length=m) (h8:m≤1000) (hxl:∀x∈xs,x.length≤100000) (hdl:d.length≤100000) :
  Calls Tryz.prog 13 #[v,.agg #[.slice B m k,.string (strB d)]] w fun e w'=>e=.returned (.bool true)∧Below w.heap.size w w':=by
 obtain⟨A1,c1,vs,dv,rfl,hc1,hvl,hrv,hA1,hxv,hdv⟩:=hv
 obtain⟨Ad,cd,rfl,_,hrd,_⟩:=hdv
 rw[hm]
 have RV:=Lh hrv
 have XV:=Lh hxv
 have RD:=Lh hrd
 have HB:=Lh hB
 have HM:=Lh hm
 have mb:(m:Int)≤1000:=by omega
 obtain⟨dl,hdl2⟩:∃dl,dl=d.length:=⟨_,rfl⟩
 have DL:=Lh hdl2.symm
 obtain⟨rc,hrc⟩:∃rc:Array Value,rc=#[.slice A1 m c1,.slice Ad d.length cd]:=⟨_,rfl⟩
 obtain⟨rs,hrs⟩:∃rs:Array Value,rs=#[.slice B m k,.string (strB d)]:=⟨_,rfl⟩
 rw[←hrc,←hrs]
 have C0:=Lh (show rc[0]?=some (.slice A1 m c1) by rw [hrc];rfl)
 have C1:=Lh (show rc[1]?=some (.slice Ad dl cd) by rw [hrc,hdl2];rfl)
 have S0:=Lh (show rs[0]?=some (.slice B m k) by rw [hrs];rfl)
 have S1:=Lh (show rs[1]?=some (.string (strB d)) by rw [hrs];rfl)
 obtain⟨ti,ht0,ht1⟩:=qKl
 have T0:=Lh ht0
 have T1:=Lh ht1
 obtain⟨tj,hu0,hu1⟩:=info_one_sl
 have U0:=Lh hu0
 have U1:=Lh hu1
 clear hc1 hvl hrv hA1 hxv hrd hB hm h8 hxl hdl hdl2 hrc hrs ht0 ht1 hu0 hu1
 go_enter Tryz.func13,Tryz.ntmps13
 go_upto_region 1 with fail
 generalize hM:Array.size (World.heap w)=M
 generalize hw1:World.alloc w _=w1
 generalize hw2:World.alloc w1 _=w2
 have z1:w1.heap.size=M+1:=by rw [←hw1,qQD,hM]
 have b2:Below w1.heap.size w1 w2:=by rw [←hw2];exact qQh _ _
 have BX:=Lh (show Below w.heap.size w w2 by
  have b1:Below w.heap.size w w1:=by rw [←hw1];exact qQh _ _
  exact b1.trans (b2.mono b1.size))
 have R1:=Lh (show w2.heap[M]?=some (.cells rc 35 (0,0))from qQb b2 (by omega) (by rw [←hw1];exact qQk _ _ _ hM.symm))
 have R2:=Lh (show w2.heap[M+1]?=some (.cells rs 45 (0,0)) by rw [←hw2];exact qQk _ _ _ z1.symm)
 clear hM hw1 hw2 z1 b2
 have c0:=qQg R1.out 0 C0.out
 have c1:=qQg R1.out 1 C1.out
 have s0:=qQg R2.out 0 S0.out
 have s1:=qQg R2.out 1 S1.out
 go_wp2_with (first
  | (refine qQl (by rfl) (qZo 22 9 (.tmp 15) rfl Tryz.underlying22 Tryz.underlying5 Tryz.underlying9 (RD.out.keep BX.out) dl cd DL.out rfl) ?_)
  | (refine qQl (by rfl) (qXo 9 _ (.tmp 16) (.tmp 18) rfl d d rfl rfl rfl _) ?_))
 go_loopw [5] (fun i wr=>∃j:Nat,j≤m∧i=.int .i64 (j:Int)∧Below w2.heap.size w2 wr) (fun i _=>m-(intOf i).toNat)
 case atStart=>exact⟨0,Nat.zero_le _,rfl,Below.refl _ _⟩
 case round=>
  obtain⟨j,hj,rfl,hb⟩:=hrel
  have J:=Lh hj
  have BW:=Lh hb
  clear hj hb c0 c1 s0 s1
  obtain⟨wp,rfl⟩:∃wp:World,wp=wr:=⟨_,rfl⟩
  have BP:=Lh (BX.out.trans (BW.out.mono BX.out.size))
  have R1:=Lh (qQb BW.out (qQe R1.out) R1.out)
  have R2:=Lh (qQb BW.out (qQe R2.out) R2.out)
  have c0:=qQg R1.out 0 C0.out
  by_cases hlt:j<m
  ·have hD:decide ((j:Int)<(m:Int))=true:=by simp;omega
   have JQ:=Lh hlt
   have jb:(j:Int)<1000:=by omega
   obtain⟨x,hx⟩:∃x,xs[j]?=some x:=⟨_,kQi (by rw [HM.out];exact hlt)⟩
   obtain⟨u,hu,hsl⟩:=XV.out j x hx
   obtain⟨Ax,cx,rfl,_,hrx,_⟩:=hsl
   obtain⟨b1,o1,hA1,hc1⟩:=RV.out j _ hu
   obtain⟨b2,o2,hA2,hc2⟩:=HB.out j _ (SX_get hx)
   obtain⟨xl,hxl⟩:∃xl,xl=x.length:=⟨_,rfl⟩
   have XL:=Lh hxl.symm
   rw[←hxl]at hc1
   have AE:=Lh hA1
   have BE:=Lh hA2
   have CX:=Lh (qQL hc1 BP.out)
   have SXX:=Lh (qQL hc2 BP.out)
   have RX:=Lh (hrx.keep BP.out)
   have Z:=Lh (show Below wp.heap.size wp wp.drew from(Below.refl _ _).drew)
   clear hx hu hA1 hc1 hA2 hc2 hxl hrx
   go_upto_region 6 with fail
   refine qQu (fun W=>Below wp.heap.size wp W) [(true,0),(true,1),(true,2),(true,3),(true,4),(true,5),(true,6),(true,7),(true,8),(true,9),(true,10),(true,11)] (by kernel_rfl) (by kernel_rfl) (fun _ _ d _ _ h=>by cases d<;>exact h) ?_
   simp only [kQl,kQm,kQd,kQg,kQe,kQo]
   generalize World.drew wp=wd at *
   refine qQc (by rfl) Z.out (fun W hW=>by go_simp;rfl) ?_
   simp only [Act.put,pq1,pq2,pq3]
   refine qQc (by rfl) Z.out (fun W hW=>qQq 33 (.tmp 28) rfl _ Tryz.underlying33 rfl rfl (qQg (qQb hW (qQe R1.out) R1.out) 0 C0.out)) ?_
   simp only [Act.put,pq1,pq2,pq3]
   refine qQc (by rfl) Z.out (fun W hW=>by go_simp;rfl) ?_
   simp only [Act.put,pq1,pq2,pq3]
   refine qQc (by rfl) Z.out (fun W hW=>qZU 33 (.tmp 29) (.tmp 30) rfl 22 Tryz.underlying33 U0.out U1.out b1 o1 m c1 j JQ.out .i64 _ rfl (by rw [←AE.out];rfl) rfl W) ?_
   simp only [Act.put,pq1,pq2,pq3]
   refine qQc (by rfl) Z.out (fun W hW=>qQq 22 (.tmp 31) rfl _ Tryz.underlying22 rfl rfl (qQL CX.out hW)) ?_
   simp only [Act.put,pq1,pq2,pq3]
   refine qQc (by rfl) Z.out (fun W hW=>qZo 22 9 (.tmp 32) rfl Tryz.underlying22 Tryz.underlying5 Tryz.underlying9 (RX.out.keep hW) xl cx XL.out rfl) ?_
   simp only [Act.put,pq1,pq2,pq3]
   refine qQc (by rfl) Z.out (fun W hW=>by go_simp;rfl) ?_
   simp only [Act.put,pq1,pq2,pq3]
   refine qQc (by rfl) Z.out (fun W hW=>qQq 43 (.tmp 34) rfl _ Tryz.underlying43 rfl rfl (qQg (qQb hW (qQe R2.out) R2.out) 0 S0.out)) ?_
   simp only [Act.put,pq1,pq2,pq3]
   refine qQc (by rfl) Z.out (fun W hW=>by go_simp;rfl) ?_
   simp only [Act.put,pq1,pq2,pq3]
   refine qQc (by rfl) Z.out (fun W hW=>qZU 43 (.tmp 35) (.tmp 36) rfl 9 Tryz.underlying43 T0.out T1.out b2 o2 m k j JQ.out .i64 _ rfl (by rw [←BE.out];rfl) rfl W) ?_
   simp only [Act.put,pq1,pq2,pq3]
   refine qQc (by rfl) Z.out (fun W hW=>qQq 9 (.tmp 37) rfl _ Tryz.underlying9 rfl rfl (qQL SXX.out hW)) ?_
   simp only [Act.put,pq1,pq2,pq3]
   refine qQc (by rfl) Z.out (fun W hW=>qXo 9 _ (.tmp 33) (.tmp 38) rfl x x rfl rfl rfl W) ?_
   simp only [Act.put,pq1,pq2,pq3]
   refine qQG ?_
   go_wp2_with fail
   go_roundw
   case rel=>exact⟨j+1,JQ.out,by go_num,BW.out.trans (Z.out.mono BW.out.size)⟩
   case measure=>have:=JQ.out;simp [intOf];omega
  ·have hD:decide ((j:Int)<(m:Int))=false:=by simp;omega
   go_wp2_with fail
   go_ret
   exact⟨rfl,BP.out⟩
end Go.Proofs.YtlocplkjokoknaaGreat
namespace Go.Proofs.YtlocplkjokoknaaGreat
open Go.RowKit
theorem run_neq_rmem {o:Oper} {a:Act} (t2:TypeId) (x y:Operand) (ho:o.op=.binOp .neq 73 x y t2) (z:Mem) (hx:a.eval x=.agg (RowN z).toArray) (hy:a.eval y=.agg (RowN z).toArray) (W:World) :
  (execOp a.eval o).run Tryz.prog W=.ok (.value (.bool false)) W:=by
 unfold execOp
 simp only [ho,hx,hy,RowN]
 go_simp
theorem qJt {o:Oper} {a:Act} (t2:TypeId) (x y:Operand) (ho:o.op=.binOp .neq 47 x y t2) (z:Kys) (hx:a.eval x=.agg (RowQ z)) (hy:a.eval y=.agg (RowQ z)) (W:World) :
  (execOp a.eval o).run Tryz.prog W=.ok (.value (.bool false)) W:=by
 unfold execOp
 simp only [ho,hx,hy,RowQ]
 go_simp
theorem unwrapL_two (s:BSt) (k:List UInt8) (xs:List (List UInt8)):(qZn s k xs).2=0∨qZn s k xs=(kysZ,13):=by
 induction xs with
 | nil=>exact .inr rfl
 | cons x xs ih=>
  rw[qZn]
  split
  ·exact ih
  ·split
   ·exact .inl rfl
   ·exact ih
theorem idealL_len (t:Nat) (s:BSt) (e:Ent) (x:List UInt8) (h:(qZf t s e).2=some x):x.length=e.text.length+28:=by
 induction t generalizing s with
 | zero=>simp [qZf]at h
 | succ t ih=>
  rw[qZf]at h
  split at h
  ·exact ih _ h
  ·injection h with h
   rw[←h,qQy]
theorem seal_len2 {s s':BSt} {e:Ent} {x:List UInt8} (hs:SealR s e s' (some x)):x.length=e.text.length+28:=by
 rcases hs with ⟨_,h⟩|⟨_,h,_⟩
 ·exact idealL_len 8 s e x (congrArg (·.2) h).symm
 ·rw [Option.some.inj h,qVp]
theorem wraps_len2 {y:Kys} (hy:OkK y) {l:List Mem} {s:BSt} {i:Nat} {s1:BSt} {xs:List (List UInt8)} (h:WrapsR y l s i s1 xs):∀x∈xs,x.length=101:=by
 induction h with
 | zero=>intro x hx;cases hx
 | succ hwr hse ih=>
  intro z hz
  rcases List.mem_append.mp hz with hz|hz
  ·exact ih z hz
  ·simp only [List.mem_cons,List.mem_nil_iff,or_false]at hz
   rw[hz,seal_len2 hse,qXy hy]
structure AnsR (w0:World) (g S D b lo:Nat) (l:List Mem) (s:BSt) (r:RBx×Option (List (List UInt8)×List UInt8)×Int) (y:Kys) (w:World) (rc:Array Value) (s':BSt) (w':World):Prop where
 sz:rc.size=2
 one:rc.all (·.oneCell')=true
 box:BoxB w0 g S D b lo s' w'
 fr:BoxF g S b w w'
 rel:RelB s' r.1
 mode:s'.mode=s.mode
 fe:s'.F=s.F
 u:s'.u≤s.u+9300
 n:s'.n≤s.n+9
 m:s'.m.length≤s.m.length+9
 ts:(∀p∈s.m,s.mode=1→p.2.text.length≤1000)→∀p∈s'.m,s'.mode=1→p.2.text.length≤1000
 old:∀e x,GoodX s e x→GoodX s' e x
 bad:r.2.1=none→(r.2.2=2∨r.2.2=15)∧rc=RingZ
 good:∀xs d,r.2.1=some (xs,d)→r.2.2=0∧qZd l=true∧RgB w.heap.size w' (.agg rc) xs d∧GoodX s' (dirE y l) d∧xs.length=8∧(∀x∈xs,x.length=101)∧d.length=301
theorem ans_none {w0:World} {g S D b lo:Nat} {l:List Mem} {s:BSt} {q:RBx} {y:Kys} {w w':World} (hb:BoxB w0 g S D b lo s w) (hr:RelB s q) (hbl:Below w.heap.size w w'):AnsR w0 g S D b lo l s (q,none,2) y w RingZ s w':=
 ⟨rfl,qZ2,hb.keep hbl,(BoxF.refl g S b w).below hbl,hr,rfl,rfl,by omega,by omega,by omega,fun h=>h,fun _ _ h=>h,fun _=>⟨.inl rfl,rfl⟩,fun _ _ h=>by cases h⟩
theorem qKy {w0:World} {g S D b lo:Nat} {l:List Mem} {s s1 s':BSt} {q1:RBx} {y:Kys} {w w':World} {r:Option (List (List UInt8)×List UInt8)} (hy:OkK y) (hl:∀z∈l,OkM z) (hc:qZd l=true) (hw:qYn y l s1 s' r) (h1:s1.mode=s.mode∧s1.F=s.F∧s1.u≤s.u+64∧s1.n=s.n∧s1.m=s.m)
  (hr:RelB s1 q1) (hx:BoxB w0 g S D b lo s' w') (hf:BoxF g S b w w') (rc:Array Value) (hn:r=none→rc=RingZ) (hs:∀xs d,r=some (xs,d)→RgB w.heap.size w' (.agg rc) xs d) :
  AnsR w0 g S D b lo l s (qZ3 y l q1) y w rc s' w'∧(qZ3 y l q1).2.1=r:=by
 obtain⟨q',h2,h3⟩:=rel_ring hr hw
 have e1:qZ3 y l q1=(q',r,if r.isSome then 0 else 15):=by rw [qZ3,if_pos hc,h2]
 have h8:=(qZN hc).1
 obtain⟨b1,b2,b3,b4,b5⟩:=wrap_bounds hy hl h8 hw
 obtain⟨k1,k2,k3,k4,k5⟩:=h1
 have hg:=ring_goodX hw
 have hrc:rc.size=2∧rc.all (·.oneCell')=true:=by
  rcases r with _|⟨xs,d⟩
  ·rw [hn rfl];exact⟨rfl,qZ2⟩
  ·obtain⟨rc',e,h4,h5⟩:=(hs xs d rfl).agg
   injection e with e
   rw[e];exact⟨h4,h5⟩
 rw[e1]
 refine⟨⟨hrc.1,hrc.2,hx,hf,h3,b1.trans k1,b2.trans k2,by omega,by omega,by rw [k5]at b5;omega,fun h0=>qYp hy hl h8 (by omega) (by rw [k1,k5];exact h0) hw,fun e x h=>hg.2 e x ?_,?_,?_⟩,rfl⟩
 ·rcases h with ⟨h5,h6⟩|⟨h5,h6⟩
  ·exact .inl ⟨k1.trans h5,h6⟩
  ·exact .inr ⟨k1.trans h5,by rw [k5];exact h6⟩
 ·intro h
  have h:r=none:=h
  exact⟨.inr (by rw [h];rfl),hn h⟩
 ·intro xs d h
  have h:r=some (xs,d):=h
  subst h
  refine⟨rfl,hc,hs xs d rfl,hg.1 xs d rfl,?_⟩
  rcases hw with ⟨_,_,_,_,_,_,h⟩|⟨_,_,_,_,h⟩|⟨s2,xs',d',hwr,hse,h⟩
  ·cases h
  ·cases h
  ·cases h
   exact⟨hwr.len,wraps_len2 hy hwr,by rw [seal_len2 hse,show(dirE y l).text.length=273 from qXu hl h8]⟩
theorem again_ans {w0:World} {g S D b lo:Nat} {y:Kys} (hy:OkK y) {l:List Mem} (hl:∀z∈l,OkM z) {s:BSt} {q:RBx} {w:World} {e:Ending} {w':World} (h:AgainP w0 g S D b lo y l s w e w') (hb:BoxB w0 g S D b lo s w) (hr:RelB s q) :
  ∃rc s',e=.returned (.tuple #[.agg rc,.int .i64 (qZ3 y l q).2.2])∧AnsR w0 g S D b lo l s (qZ3 y l q) y w rc s' w':=by
 rcases h with ⟨hc,rfl,hbl⟩|⟨hc,s',r,hw,hx,hf,hrr⟩
 ·rw [qZ3,if_neg (by rw [hc];simp)]
  exact⟨RingZ,s,rfl,ans_none hb hr hbl⟩
 ·obtain⟨q',h2,_⟩:=rel_ring hr hw
  have e1:(qZ3 y l q).2.2=if r.isSome then 0 else 15:=by rw [qZ3,if_pos hc,h2]
  rw[e1]
  rcases r with _|⟨xs,d⟩
  ·exact⟨RingZ,s',hrr,(qKy hy hl hc hw ⟨rfl,rfl,by omega,rfl,rfl⟩ hr hx hf RingZ (fun _=>rfl) (fun _ _ h=>by cases h)).1⟩
  ·obtain⟨v,he,hrg⟩:=hrr
   obtain⟨rc,rfl,h2,h3⟩:=hrg.agg
   exact⟨rc,s',he,(qKy hy hl hc hw ⟨rfl,rfl,by omega,rfl,rfl⟩ hr hx hf rc (fun h=>by cases h) (fun _ _ h=>by cases h;exact hrg)).1⟩
theorem make_ans {w0:World} {g S D b lo:Nat} {ep:UInt64} {l:List Mem} (hl:∀z∈l,OkM z) {s:BSt} {q:RBx} {w:World} {e:Ending} {w':World} (h:MakeP w0 g S D b lo ep l s w e w') (hb:BoxB w0 g S D b lo s w) (hr:RelB s q) :
  ∃rc yk s',e=.returned (.tuple #[.agg rc,.agg (RowK yk).toArray,.int .i64 (qJ6 ep l q).2.2])∧AnsR w0 g S D b lo l s (qJ6 ep l q) (qJC q ep) w rc s' w'∧OkK yk∧((qJ6 ep l q).2.1=none→yk=kysZ)∧((qJ6 ep l q).2.1≠none→yk=qJC q ep):=by
 have ek:qVu s ep=qJC q ep:=by rw [qVu,qJC,hr.F,hr.u]
 rcases h with ⟨hc,rfl,hbl⟩|⟨hc,s',r,hw,hx,hf,hrr⟩
 ·rw [qJ6,if_neg (by rw [hc];simp)]
  exact⟨RingZ,kysZ,s,rfl,ans_none hb hr hbl,qZr,fun _=>rfl,fun h=>absurd rfl h⟩
 ·rw [ek]at hw hrr
  have hr1:RelB { s with u:=s.u+64 } { q with u:=q.u+64 }:=⟨hr.mode,hr.F,by show s.u+64=q.u+64;rw [hr.u],hr.n,hr.ideal,hr.known⟩
  have hok:OkK (qJC q ep):=⟨qQy _ _ _,qQy _ _ _⟩
  obtain⟨q',h2,_⟩:=rel_ring hr1 hw
  have e0:qJ6 ep l q=qZ3 (qJC q ep) l { q with u:=q.u+64 }:=by rw [qJ6,if_pos hc]
  have e1:(qZ3 (qJC q ep) l { q with u:=q.u+64 }).2.2=if r.isSome then 0 else 15:=by rw [qZ3,if_pos hc,h2]
  rw[e0,e1]
  rcases r with _|⟨xs,d⟩
  ·obtain⟨h3,h4⟩:=qKy (s:=s) hok hl hc hw ⟨rfl,rfl,kQh _,rfl,rfl⟩ hr1 hx hf RingZ (fun _=>rfl) (fun _ _ h=>by cases h)
   exact⟨RingZ,kysZ,s',hrr,h3,qZr,fun _=>rfl,fun h=>absurd h4 h⟩
  ·obtain⟨v,he,hrg⟩:=hrr
   obtain⟨rc,rfl,_,_⟩:=hrg.agg
   obtain⟨h3,h4⟩:=qKy (s:=s) hok hl hc hw ⟨rfl,rfl,kQh _,rfl,rfl⟩ hr1 hx hf rc (fun h=>by cases h) (fun _ _ h=>by cases h;exact hrg)
   exact⟨rc,_,s',he,h3,hok,fun h=>(by rw [h4]at h;cases h),fun _=>rfl⟩
structure BqW (w w3:World) (g S D b L M9:Nat) (s:BSt) (q:RBx) (A:Option Addr) (nn c:Nat) (W:World):Prop where
 b3:Below w.heap.size w w3
 box:BoxB w3 g S D b L s W
 row:W.heap[M9]?=some (.cells (RBC q.mode q.F q.u A nn c) 32 (0,0))
 rd:RdV W A (EC q.L)
 ln:q.L.length=nn
 cap:nn≤c
 off:∀a,A=some a→a.block≠g∧a.block≠S∧a.block≠b∧a.block≠M9∧a.block<W.heap.size
 lov:L≤W.heap.size
 m9:g<M9∧S<M9∧D<M9∧b<M9∧M9<L
 w39:w3.heap.size≤M9
section
variable {w w3 W W':World} {g S D b L M9:Nat} {s s':BSt} {q q':RBx} {A A':Option Addr} {nn c n' c':Nat}
theorem BqW.bel (h:BqW w w3 g S D b L M9 s q A nn c W):Below w.heap.size w W:=h.b3.trans (h.box.bel.mono h.b3.size)
theorem BqW.keep (h:BqW w w3 g S D b L M9 s q A nn c W) (hb:Below W.heap.size W W'):BqW w w3 g S D b L M9 s q A nn c W':=
 ⟨h.b3,h.box.keep hb,qQb hb (qQe h.row) h.row,h.rd.keep hb,h.ln,h.cap,fun a e=>⟨(h.off a e).1,(h.off a e).2.1,(h.off a e).2.2.1,(h.off a e).2.2.2.1,kQb (h.off a e).2.2.2.2 hb.size⟩,kQk h.lov hb.size,h.m9,h.w39⟩
theorem BqW.said (h:BqW w w3 g S D b L M9 s q A nn c W) (hx:BoxB w3 g S D b L s' W') (hf:BoxF g S b W W'):BqW w w3 g S D b L M9 s' q A nn c W':=by
 have:=h.m9
 exact⟨h.b3,hx,qZm h.row hf (by omega),h.rd.boxF hf (fun a e=>⟨(h.off a e).1,(h.off a e).2.1,(h.off a e).2.2.1⟩),h.ln,h.cap,fun a e=>⟨(h.off a e).1,(h.off a e).2.1,(h.off a e).2.2.1,(h.off a e).2.2.2.1,kQb (h.off a e).2.2.2.2 hf.1⟩,kQk h.lov hf.1,h.m9,h.w39⟩
theorem BoxB.far {w0 W W':World} {g S D b lo:Nat} {s:BSt} {M:Nat} (h:BoxB w0 g S D b lo s W) (hg:W.grownBy W' (some M)) (hM:M≠g∧M≠S∧M≠D∧M≠b∧M<lo∧w0.heap.size≤M):BoxB w0 g S D b lo s W':=
 ⟨h.bel.trans (qQi hg h.bel.size (by rintro k ⟨⟩;exact hM.2.2.2.2.2)),h.hg,h.hS,h.hD,h.hb,qQd hg (by intro e;injection e with e;exact hM.1 e.symm) h.row,h.src.far hg (by rintro k ⟨⟩;exact⟨hM.2.1,hM.2.2.1⟩),kQb h.ltD hg.size,h.map.far hg (by rintro k ⟨⟩;exact⟨hM.2.2.2.2.1,hM.2.2.2.1⟩),h.gS,h.gD,h.gb,h.Sb,h.Db,h.lg,h.lS,h.few⟩
theorem BqW.ref (h:BqW w w3 g S D b L M9 s q A nn c W) (hg:W.grownBy W' (some M9)) (hz:W'.heap[M9]?=some (.cells (RBC q'.mode q'.F q'.u A' n' c') 32 (0,0))) (hr:RdV W' A' (EC q'.L)) (hl:q'.L.length=n') (hc:n'≤c')
  (ho:∀a,A'=some a→(L≤a.block∨A=some a)∧a.block<W'.heap.size):BqW w w3 g S D b L M9 s q' A' n' c' W':=by
 have:=h.m9
 have:=h.w39
 refine⟨h.b3,h.box.far hg (by omega),hz,hr,hl,hc,fun a e=>?_,kQk h.lov hg.size,h.m9,h.w39⟩
 rcases (ho a e).1 with h1|h1
 ·exact⟨by omega,by omega,by omega,by omega,(ho a e).2⟩
 ·exact⟨(h.off a h1).1,(h.off a h1).2.1,(h.off a h1).2.2.1,(h.off a h1).2.2.2.1,(ho a e).2⟩
end
structure RxW (L M10 M12 M13:Nat) (ra:Array Value) (y:Kys) (B:Option Addr) (m k:Nat) (xs:List (List UInt8)) (d:List UInt8) (W:World):Prop where
 fa:W.heap[M10]?=some (.cells ra 35 (0,0))
 ky:W.heap[M10+1]?=some (.cells (RowK y).toArray 40 (0,0))
 rx:W.heap[M12]?=some (.cells #[.slice B m k,.string (strB d)] 45 (0,0))
 kq:W.heap[M13]?=some (.cells (RowQ y) 47 (0,0))
 rg:RgB L W (.agg ra) xs d
 sx:RdV W B (SX xs)
 hi:L≤M10∧L≤M12∧L≤M13∧∀a,B=some a→L≤a.block
section
variable {L M10 M12 M13:Nat} {ra:Array Value} {y:Kys} {B:Option Addr} {m k:Nat} {xs:List (List UInt8)} {d:List UInt8} {W W':World}
theorem RxW.keep (h:RxW L M10 M12 M13 ra y B m k xs d W) (hb:Below W.heap.size W W'):RxW L M10 M12 M13 ra y B m k xs d W':=
 ⟨qQb hb (qQe h.fa) h.fa,qQb hb (qQe h.ky) h.ky,qQb hb (qQe h.rx) h.rx,qQb hb (qQe h.kq) h.kq,h.rg.keep hb,h.sx.keep hb,h.hi⟩
theorem RxW.said {g S b:Nat} (h:RxW L M10 M12 M13 ra y B m k xs d W) (hf:BoxF g S b W W') (hl:g<L∧S<L∧b<L):RxW L M10 M12 M13 ra y B m k xs d W':=by
 have:=h.hi
 exact⟨qZm h.fa hf (by omega),qZm h.ky hf (by omega),qZm h.rx hf (by omega),qZm h.kq hf (by omega),h.rg.boxF hf hl,h.sx.boxF hf (fun a e=>by have:=h.hi.2.2.2 a e;omega),h.hi⟩
theorem RxW.ref {M9:Nat} (h:RxW L M10 M12 M13 ra y B m k xs d W) (hg:W.grownBy W' (some M9)) (hl:M9<L):RxW L M10 M12 M13 ra y B m k xs d W':=by
 have:=h.hi
 have k:∀{j:Nat} {o:Obj},L≤j→W.heap[j]?=some o→W'.heap[j]?=some o:=fun hj hx=>qQd hg (fun e=>by have:=Option.some.inj e;omega) hx
 exact⟨k (by omega) h.fa,k (by omega) h.ky,k (by omega) h.rx,k (by omega) h.kq,h.rg.grown hg hl,h.sx.grown hg (by rintro i ⟨⟩ a e;have:=h.hi.2.2.2 a e;omega),h.hi⟩
end
theorem qJG {w W W':World} {r:Option Nat} {q:Nat} (h:w.grownBy W r) (hg:W.grownBy W' (some q)) (hq:w.heap.size≤q):w.grownBy W' r:=
 ⟨hg.os.trans h.os,hg.tape.trans h.tape,hg.output.trans h.output,kQk h.size hg.size,fun i hi hr=>(hg.block i (kQb hi h.size) (fun e=>by have:=Option.some.inj e;omega)).trans (h.block i hi hr)⟩
def KC (l:List (List UInt8)):List Value:=l.flatMap B8
theorem qYg (l:List (List UInt8)) (h:∀x∈l,x.length=32):(KC l).length=l.length*32:=by
 induction l with
 | nil=>rfl
 | cons x l ih=>
  rw[KC,List.flatMap_cons,kQj,qQt,h x (List.mem_cons_self ..)]
  have:=ih (fun y hy=>h y (List.mem_cons_of_mem _ hy))
  rw[KC]at this
  rw[this,List.length_cons];omega
theorem KC_one (l:List (List UInt8)):∀u∈KC l,u.oneCell'=true:=by
 intro u hu
 simp only [KC,List.mem_flatMap,B8,List.mem_map]at hu
 obtain⟨_,_,_,_,rfl⟩:=hu
 rfl
theorem KC_at {l:List (List UInt8)} (h:∀x∈l,x.length=32) {j:Nat} {x:List UInt8} (hj:l[j]?=some x) {i:Nat} (hi:i<32):(KC l)[j*32+i]?=(B8 x)[i]?:=by
 induction l generalizing j with
 | nil=>simp at hj
 | cons y l ih=>
  have hy:(B8 y).length=32:=by rw [qQt];exact h y (List.mem_cons_self ..)
  rw[KC,List.flatMap_cons]
  cases j with
  | zero=>simp at hj;subst hj;rw [Nat.zero_mul,Nat.zero_add,List.getElem?_append_left (by omega)]
  | succ j=>
   rw[kQq (by omega),hy,show(j+1)*32+i-32=j*32+i by omega]
   exact ih (fun z hz=>h z (List.mem_cons_of_mem _ hz)) (by simpa using hj)
theorem KC_range {W:World} {A:Option Addr} {l:List (List UInt8)} (h:RdV W A (KC l)) (hl:∀x∈l,x.length=32) {j:Nat} {x:List UInt8} (hj:l[j]?=some x):∃b o,A=some ⟨b,o,none⟩∧W.rangeAt b (o+j*32) (B8 x):=by
 have hx:(B8 x).length=32:=by rw [qQt];exact hl x (kQu hj)
 obtain⟨v,hv⟩:∃v,(B8 x)[0]?=some v:=⟨_,kQi (by omega)⟩
 obtain⟨b,o,e,_⟩:=h (j*32+0) v (by rw [KC_at hl hj (by omega)];exact hv)
 refine⟨b,o,e,fun i u hi=>?_⟩
 have hi32:i<32:=by have:=(List.getElem?_eq_some_iff.1 hi).1;omega
 obtain⟨b',o',e',hc⟩:=h (j*32+i) u (by rw [KC_at hl hj hi32];exact hi)
 rw[e]at e'
 cases e'
 rw[Nat.add_assoc]
 exact hc
theorem KeyK:SlK Tryz.prog 61 38 (.agg (W8 z32)) 32 32:=⟨Tryz.underlying61,by kernel_rfl,rfl,by omega⟩
theorem build_key1 (k:List UInt8) (hk:k.length=32) (W:World):(Instr.buildSlice 61 1 #[(0,.agg (B8 k).toArray)]).run Tryz.prog W=.ok (.slice (some ⟨W.heap.size,0,none⟩) 1 1) (W.alloc (.cells (B8 k).toArray 38)):=by
 have h:∀(v0 v1 v2 v3 v4 v5 v6 v7 v8 v9 v10 v11 v12 v13 v14 v15 v16 v17 v18 v19 v20 v21 v22 v23 v24 v25 v26 v27 v28 v29 v30 v31:Value) (W:World),(Instr.buildSlice 61 1 #[(0,.agg #[v0,v1,v2,v3,v4,v5,v6,v7,v8,v9,v10,v11,v12,v13,v14,v15,v16,v17,v18,v19,v20,v21,v22,v23,v24,v25,v26,v27,v28,v29,v30,v31])]).run Tryz.prog W=.ok (.slice (some ⟨W.heap.size,0,none⟩) 1 1) (W.alloc (.cells #[v0,v1,v2,v3,v4,v5,v6,v7,v8,v9,v10,v11,v12,v13,v14,v15,v16,v17,v18,v19,v20,v21,v22,v23,v24,v25,v26,v27,v28,v29,v30,v31] 38)):=by
  intros
  kernel_rfl
 match k,hk with
 | [k0,k1,k2,k3,k4,k5,k6,k7,k8,k9,k10,k11,k12,k13,k14,k15,k16,k17,k18,k19,k20,k21,k22,k23,k24,k25,k26,k27,k28,k29,k30,k31],_=>exact h _ _ _ _ _ _ _ _ _ _ _ _ _ _ _ _ _ _ _ _ _ _ _ _ _ _ _ _ _ _ _ _ W
theorem build_key3 (k:List UInt8) (hk:k.length=32) (W:World):(Instr.buildSlice 61 3 #[(0,.agg (W8 (keyK 1))),(1,.agg (W8 z32)),(2,.agg (B8 k).toArray)]).run Tryz.prog W=.ok (.slice (some ⟨W.heap.size,0,none⟩) 3 3) (W.alloc (.cells (KC [keyK 1,z32,k]).toArray 38)):=by
 have h:∀(k0 k1 k2 k3 k4 k5 k6 k7 k8 k9 k10 k11 k12 k13 k14 k15 k16 k17 k18 k19 k20 k21 k22 k23 k24 k25 k26 k27 k28 k29 k30 k31:UInt8) (W:World),(Instr.buildSlice 61 3 #[(0,.agg (W8 (keyK 1))),(1,.agg (W8 z32)),(2,.agg (B8 [k0,k1,k2,k3,k4,k5,k6,k7,k8,k9,k10,k11,k12,k13,k14,k15,k16,k17,k18,k19,k20,k21,k22,k23,k24,k25,k26,k27,k28,k29,k30,k31]).toArray)]).run Tryz.prog W=.ok (.slice (some ⟨W.heap.size,0,none⟩) 3 3) (W.alloc (.cells (KC [keyK 1,z32,[k0,k1,k2,k3,k4,k5,k6,k7,k8,k9,k10,k11,k12,k13,k14,k15,k16,k17,k18,k19,k20,k21,k22,k23,k24,k25,k26,k27,k28,k29,k30,k31]]).toArray 38)):=by
  intros
  kernel_rfl
 match k,hk with
 | [k0,k1,k2,k3,k4,k5,k6,k7,k8,k9,k10,k11,k12,k13,k14,k15,k16,k17,k18,k19,k20,k21,k22,k23,k24,k25,k26,k27,k28,k29,k30,k31],_=>exact h _ _ _ _ _ _ _ _ _ _ _ _ _ _ _ _ _ _ _ _ _ _ _ _ _ _ _ _ _ _ _ _ W
section
variable {o:Oper} {a:Act} {Q:Exit→Act→World→Prop} {K:Act→World→Prop} {W:World}
theorem wp_key1 (x:Operand) (k:List UInt8) (hk:k.length=32) (ho:o.op=.buildSlice 61 1 #[(0,x)]) (hx:a.eval x=.agg (B8 k).toArray) (h:K (a.put o.dst (.slice (some ⟨W.heap.size,0,none⟩) 1 1)) (W.alloc (.cells (B8 k).toArray 38))):o.wp Tryz.prog a W K Q:=by
 have h1:=build_key1 k hk W
 unfold Oper.wp execOp
 simp only [ho,kQs,kQw,List.map_nil,hx,Sem.run_bind,Sem.run_pure,h1,Result.andThen_ok]
 exact h
theorem wp_key3 (x y z:Operand) (k:List UInt8) (hk:k.length=32) (ho:o.op=.buildSlice 61 3 #[(0,x),(1,y),(2,z)]) (hx:a.eval x=.agg (W8 (keyK 1))) (hy:a.eval y=.agg (W8 z32)) (hz:a.eval z=.agg (B8 k).toArray) (h:K (a.put o.dst (.slice (some ⟨W.heap.size,0,none⟩) 3 3)) (W.alloc (.cells (KC [keyK 1,z32,k]).toArray 38))):o.wp Tryz.prog a W K Q:=by
 have h1:=build_key3 k hk W
 unfold Oper.wp execOp
 simp only [ho,kQs,kQw,List.map_nil,hx,hy,hz,Sem.run_bind,Sem.run_pure,h1,Result.andThen_ok]
 exact h
end
theorem run_zkey {o:Oper} {a:Act} (ho:o.op=.build 38 #[]) (W:World):(execOp a.eval o).run Tryz.prog W=.ok (.value (.agg (W8 z32))) W:=by
 have h2:∀W:World,(Instr.build 38 #[]).run Tryz.prog W=.ok (.agg (W8 z32)) W:=by
  intro W
  kernel_rfl
 unfold execOp
 have h3:=h2 W
 simp only [ho,kQs,List.map_nil,Sem.run_bind,h3,Result.andThen_ok,Sem.run_pure]
theorem run_neq_kys {o:Oper} {a:Act} (t2:TypeId) (x z:Operand) (ho:o.op=.binOp .neq 40 x z t2) (y:Kys) (hy:OkK y) (hx:a.eval x=.agg (RowK y).toArray) (hz:a.eval z=.agg (RowK y).toArray) (W:World) :
  (execOp a.eval o).run Tryz.prog W=.ok (.value (.bool false)) W:=by
 have hm:Tryz.prog.eqGuardType Tryz.prog.depth 40=false:=by kernel_rfl
 have h:=eq_kysD y y hy hy W 9997
 rw[decide_eq_true (⟨rfl,rfl,rfl,rfl⟩:y.e=y.e∧y.k=y.k∧y.o=y.o∧y.w=y.w)]at h
 unfold execOp
 simp only [ho,hx,hz,Sem.run_bind,Sem.run_pure,run_neq_struct,run_eqGuard_agg (w:=W) _ _ x z _ _ hm,h,Result.andThen_ok]
 rfl
theorem ownK_keys {w:World} {base:Nat} {l:List (List UInt8)} {n:Nat} (hn:l.length=n) (h8:n≤100) (hl:∀x∈l,x.length=32) (hb:base≤w.heap.size):OwnK (w.alloc (.cells (KC l).toArray 38)) base 38 32 (.slice (some ⟨w.heap.size,0,none⟩) n n) n (KC l):=
 ⟨by rw [qYg l hl,hn],.inr ⟨w.heap.size,n,(KC l).toArray,rfl,hb,qQk _ _ _ rfl,kQh _,by simp only [maxLen];omega,by rw [List.size_toArray,qYg l hl,hn],by rw [kQn (by rw [←hn,←qYg l hl];exact kQh _)]⟩⟩
theorem mask_i64 (n:Int) (b:Nat) (hb:b≤4611686018427387903):∃m:Nat,m≤b∧bits .and .i64 n (b:Int)=(m:Int):=by
 refine⟨(BitVec.ofInt 64 n &&& BitVec.ofInt 64 (b:Int)).toNat,?_,?_⟩
 ·rw [BitVec.toNat_and,BitVec.ofInt_natCast,BitVec.toNat_ofNat]
  exact kQk Nat.and_le_right (Nat.mod_le _ _)
 ·show IntKind.i64.wrap ((BitVec.ofInt 64 n &&& BitVec.ofInt 64 (b:Int)).toNat:Int)=_
  have:(BitVec.ofInt 64 n &&& BitVec.ofInt 64 (b:Int)).toNat≤b:=by
   rw[BitVec.toNat_and,BitVec.ofInt_natCast,BitVec.toNat_ofNat]
   exact kQk Nat.and_le_right (Nat.mod_le _ _)
  rw[IntKind.wrap_i64]
  omega
section
variable {P:Program} {ops:Array Oper} {Q:Exit→Act→World→Prop} {S:World→Prop} {s:Nat}
def qKH (P:Program) (ops:Array Oper) (Q:Exit→Act→World→Prop):List Nat→Act→World→Prop
 | [],a,w=>Q .normal a w
 | i::T,a,w=>∃o,ops[i]?=some o∧o.guard=none∧o.wp P a w (fun a' w'=>qKH P ops Q T a' w') Q
def tailB (ops:Array Oper):List Nat→Array Bool→Bool
 | [],L=>(Region.ready .any ops L).isEmpty
 | i::T,L=>(match Region.ready .any ops L with | [j]=>Nat.beq j i|_=>false)&&tailB ops T (L.setIfInBounds i true)
def Q2 (P:Program) (ops:Array Oper) (Q:Exit→Act→World→Prop) (T:List Nat):Exit→Act→World→Prop
 | .normal,a,w=>qKH P ops Q T a w
 | c,a,w=>Q c a w
theorem qKG:∀(T:List Nat) (n:Nat) (L:Array Bool) (a:Act) (w:World),T.length≤n→tailB ops T L=true→(L.getD s true=true∨T.head?=some s)→qKH P ops Q T a w→qVi P ops Q S s n L a w
 | [],n,L,a,w,_,hB,_,h=>by
  have hr:Region.ready .any ops L=[]:=by simpa [tailB]using hB
  cases n with
  | zero=>exact⟨hr,h⟩
  | succ n=>exact⟨fun _=>h,by rw [hr];simp⟩
 | i::T,n,L,a,w,hf,hB,hL,h=>by
  simp only [tailB,Bool.and_eq_true]at hB
  obtain⟨hr0,hB'⟩:=hB
  have hr:Region.ready .any ops L=[i]:=by
   split at hr0
   ·rename_i j hj
    rw[hj,kQr hr0]
   ·cases hr0
  obtain⟨n,rfl⟩:∃m,n=m+1:=⟨n-1,by simp at hf;omega⟩
  obtain⟨o,ho,hg,h⟩:=h
  have hL':(L.setIfInBounds i true).getD s true=true:=by
   rcases Nat.decEq i s with hne|rfl
   ·rw [getD_set_ne true hne]
    rcases hL with h1|h1
    ·exact h1
    ·exact absurd (by simpa using h1) hne
   ·by_cases hsz:i<L.size<;>simp [hsz]
  refine⟨(fun e=>by rw [hr]at e;cases e),fun j hj=>?_⟩
  rw[hr]at hj
  obtain rfl:j=i:=by simpa using hj
  unfold wpOp
  simp only [ho]
  rw[if_pos (by simp [Region.wanted,hg])]
  exact .inl (Oper.wp_mono (fun a' w' hk=>⟨.inl hL',qKG T n _ a' w' (by simp at hf;omega) hB' (.inl hL') hk⟩) h)
def pureB (o:Oper):Bool:=match o.op with | .move _=>true | .extract _ _=>true|_=>false
theorem pure_any {o:Oper} {v:Value} {a:Act} {w:World} (hp:pureB o=true) (hy:YieldsIf P ops S o v a) (hS:S w):YieldsIf P ops (fun _=>True) o v a:=by
 refine hy.imp (fun⟨h1,h2⟩=>⟨h1,fun w' _=>?_⟩) id
 have h3:=h2 w hS
 unfold pureB at hp
 unfold execOp at h3 ⊢
 split at hp
 ·rename_i x e
  simp only [e,Sem.run_pure]at h3 ⊢
  injection h3 with h3
  rw[h3]
 ·rename_i x i e
  simp only [e]at h3 ⊢
  generalize a.eval x=u at h3 ⊢
  cases u with
  | tuple vs=>
   simp only [Instr.extract]at h3 ⊢
   cases hv:vs[i]? with
   | some z=>
    simp only [hv,Sem.run_bind,Sem.run_pure,Result.andThen_ok]at h3 ⊢
    injection h3 with h3
    rw[h3]
   | none=>
    simp only [hv]at h3
    cases h3
  | _=>cases h3
 ·cases hp
theorem wpTill_take2 {i:Nat} {oi:Oper} {v:Value} (hi:ops[i]?=some oi) (his:i≠s) (hsel:∀(j:Nat) (o:Oper) cs b,ops[j]?=some o→o.op≠.select cs b)
  (hQ:∀c a w,Q (.panic c) (a.put oi.dst v) w→Q (.panic c) a w):∀(n:Nat) (L:Array Bool) (a:Act) (w:World),
   (∀j oj,ops[j]?=some oj→j≠i→L.getD j true=false→(∀e∈oj.after,Region.binds .any e=true→e.on≠i)→oi.apart ops oj=true)→
   i∈Region.ready .any ops L→YieldsIf P ops (fun _=>True) oi v a→Yet s S L w→qVi P ops Q S s n (L.setIfInBounds i true) (a.put oi.dst v) w→qVi P ops Q S s (n+1) L a w:=by
 intro n
 induction n with
 | zero=>
  intro L a w hap hr hy hY H
  refine⟨(fun e=>by rw [e]at hr;cases hr),fun j hj=>?_⟩
  rcases Nat.decEq j i with hne|rfl
  ·have hm:=ready_mono hj hne
   rw[H.1]at hm
   cases hm
  ·exact hy.wpOp hi trivial ⟨by rw [Yet,getD_set_ne true his];exact hY,H⟩
 | succ n ih=>
  intro L a w hap hr hy hY H
  refine⟨(fun e=>by rw [e]at hr;cases hr),fun j hj=>?_⟩
  rcases Nat.decEq j i with hne|rfl
  ·obtain⟨hjL,oj,hoj,hedges⟩:=mem_ready.1 hj
   have hfree:∀e∈oj.after,Region.binds .any e=true→e.on≠i:=fun e he hb hon=>qWd hr hon (hedges e he) hb
   have K:=wpOp_putIf hoj (hap j oj hoj hne hjL hfree) (fun cs b=>hsel i oi cs b hi) (fun cs b=>hsel j oj cs b hoj) hQ hy (H.2 j (ready_mono hj hne))
   refine wpOp_mono (fun a' w' hk=>?_) K
   obtain⟨hy',hyet,hrest⟩:=hk
   have hY':Yet s S (L.setIfInBounds j true) w':=by
    rw[Array.setIfInBounds_comm _ _ (Ne.symm hne),Yet,getD_set_ne true his]at hyet
    exact hyet
   refine⟨hY',ih (L.setIfInBounds j true) a' w' (fun k ok hk hki hkL hkf=>?_) (ready_mono hr (Ne.symm hne)) hy' hY' ?_⟩
   ·refine hap k ok hk hki ?_ hkf
    rcases Nat.decEq j k with h2|rfl
    ·rwa [getD_set_ne true h2]at hkL
    ·exact hjL
   ·rw [Array.setIfInBounds_comm _ _ hne]
    exact hrest
  ·exact hy.wpOp hi trivial ⟨by rw [Yet,getD_set_ne true his];exact hY,H⟩
def qWp (ops:Array Oper) (s:Nat) (T2:List Nat):Road→Array Bool→Bool
 | .done,L=>(match T2 with|i::_=>Nat.beq i s | []=>false)&&tailB ops T2 L
 | .q i T,L=>(ops[i]?).isSome&&Region.free .any ops L i&&(Region.ready .any ops L).contains i&&!(L.getD s true)&&!(Nat.beq i s)&&((match ops[i]? with|some o=>pureB o|none=>false)||(match ops[s]? with|some o=>o.after.toList.any (fun e=>Region.binds .any e&&Nat.beq e.on i)|none=>false))&&qWp ops s T2 T (L.setIfInBounds i true)
 | .t i T,L=>(match Region.ready .any ops L with | [j]=>Nat.beq j i|_=>false)&&qWp ops s T2 T (L.setIfInBounds i true)
 | .two i T j U,L=>(match Region.ready .any ops L with | [a,b]=>Nat.beq a i&&Nat.beq b j|_=>false)&&qWp ops s T2 T (L.setIfInBounds i true)&&qWp ops s T2 U (L.setIfInBounds j true)
 | .three i T j U k V,L=>(match Region.ready .any ops L with | [a,b,c]=>Nat.beq a i&&Nat.beq b j&&Nat.beq c k|_=>false)&&qWp ops s T2 T (L.setIfInBounds i true)&&qWp ops s T2 U (L.setIfInBounds j true)&&qWp ops s T2 V (L.setIfInBounds k true)
theorem qXM {T2:List Nat} {K:Act→World→Prop} {K':Act→World→Prop} {L:Array Bool} {i:Nat} {a:Act} {w:World} (h:qYk P ops (Q2 P ops Q T2) S K i a w) (hK:∀a w,K a w→K' a w):wpOp P ops Q i (fun a' w'=>Yet s S L w'∧K' a' w') a w:=by
 obtain⟨o,ho,h⟩:=h
 unfold wpOp
 simp only [ho]
 split
 ·rename_i hw
  rw[if_pos hw]at h
  exact .inl (Oper.wp_mono (fun a' w' (hh:S w'∧K a' w')=>⟨.inr hh.1,hK _ _ hh.2⟩) (show o.wp P a w (fun a' w'=>S w'∧K a' w') Q from h))
 ·rename_i hw
  rw[if_neg hw]at h
  exact⟨.inr h.1,hK _ _ h.2⟩
theorem roadT_sound {T2:List Nat} {os:Oper} (hos:ops[s]?=some os) (hQ:∀c a d v w,Q (.panic c) (Act.put a d v) w→Q (.panic c) a w) (hs:Region.noSelect ops=true):∀(T:Road) (S:World→Prop) (n:Nat) (L:Array Bool) (a:Act) (w:World),qXT T+T2.length≤n→qWp ops s T2 T L=true→
  road P ops (Q2 P ops Q T2) S T a w→qVi P ops Q S s n L a w:=by
 intro T
 induction T with
 | done=>
  intro S n L a w hf hB h
  simp only [qWp,Bool.and_eq_true]at hB
  refine qKG T2 n L a w (by simp only [qXT]at hf;omega) hB.2 (.inr ?_) h
  have h1:=hB.1
  split at h1
  ·simp [kQr h1]
  ·cases h1
 | q i T ih=>
  intro S n L a w hf hB h
  simp only [qWp,Bool.and_eq_true]at hB
  obtain⟨⟨⟨⟨⟨⟨hi,hfr⟩,hr⟩,hsL⟩,hne⟩,hw⟩,hB'⟩:=hB
  simp only [qXT]at hf
  obtain⟨n,rfl⟩:∃m,n=m+1:=⟨n-1,by omega⟩
  obtain⟨S',hSS,hS,o,ho,v,hy,h'⟩:=h
  rw[hos,ho]at hw
  rcases Bool.or_eq_true _ _ |>.mp hw with hw|hw
  ·exact qZG hSS _ _ _ _ (wpTill_take2 ho (by intro e;subst e;simp at hne) (Region.noSelect_spec hs) (fun c a w hh=>hQ c a _ _ w hh) n L a w (Region.free_spec ho hfr) (by simpa using hr) (pure_any hw hy hS) (.inr hS) (ih S' n _ _ w (by omega) hB' h'))
  obtain⟨ed,hed,hb⟩:=List.any_eq_true.1 hw
  simp only [Bool.and_eq_true]at hb
  exact qZG hSS _ _ _ _ (qKC ho hos ⟨ed,by simpa using hed,hb.1,kQr hb.2⟩ (Region.noSelect_spec hs) (fun c a w hh=>hQ c a _ _ w hh) n L a w (by simpa using hsL) (by intro e;subst e;simp at hne) (Region.free_spec ho hfr) (by simpa using hr) hy hS
   (ih S' n _ _ w (by omega) hB' h'))
 | t i T ih=>
  intro S n L a w hf hB h
  simp only [qWp,Bool.and_eq_true]at hB
  obtain⟨hr0,hB'⟩:=hB
  have hr:Region.ready .any ops L=[i]:=by
   split at hr0
   ·rename_i j hj
    rw[hj,kQr hr0]
   ·cases hr0
  simp only [qXT]at hf
  obtain⟨n,rfl⟩:∃m,n=m+1:=⟨n-1,by omega⟩
  obtain⟨S',hSS,h⟩:=h
  refine qZG hSS _ _ _ _ ⟨(fun e=>by rw [hr]at e;cases e),fun j hj=>?_⟩
  rw[hr]at hj
  obtain rfl:j=i:=by simpa using hj
  exact qXM h (fun a w h=>ih S' n _ a w (by omega) hB' h)
 | two i T j U ihT ihU=>
  intro S n L a w hf hB h
  simp only [qWp,Bool.and_eq_true]at hB
  obtain⟨⟨hr0,hT⟩,hU⟩:=hB
  have hr:Region.ready .any ops L=[i,j]:=by
   split at hr0
   ·rename_i a b hj
    simp only [Bool.and_eq_true]at hr0
    rw[hj,kQr hr0.1,kQr hr0.2]
   ·cases hr0
  simp only [qXT]at hf
  obtain⟨n,rfl⟩:∃m,n=m+1:=⟨n-1,by omega⟩
  obtain⟨S',hSS,h1,h2⟩:=h
  refine qZG hSS _ _ _ _ ⟨(fun e=>by rw [hr]at e;cases e),fun k hk=>?_⟩
  rw[hr]at hk
  simp only [List.mem_cons,List.not_mem_nil,or_false]at hk
  rcases hk with rfl|rfl
  ·exact qXM h1 (fun a w h=>ihT S' n _ a w (by omega) hT h)
  ·exact qXM h2 (fun a w h=>ihU S' n _ a w (by omega) hU h)
 | three i T j U k V ihT ihU ihV=>
  intro S n L a w hf hB h
  simp only [qWp,Bool.and_eq_true]at hB
  obtain⟨⟨⟨hr0,hT⟩,hU⟩,hV⟩:=hB
  have hr:Region.ready .any ops L=[i,j,k]:=by
   split at hr0
   ·rename_i a b c hj
    simp only [Bool.and_eq_true]at hr0
    rw[hj,kQr hr0.1.1,kQr hr0.1.2,kQr hr0.2]
   ·cases hr0
  simp only [qXT]at hf
  obtain⟨n,rfl⟩:∃m,n=m+1:=⟨n-1,by omega⟩
  obtain⟨S',hSS,h1,h2,h3⟩:=h
  refine qZG hSS _ _ _ _ ⟨(fun e=>by rw [hr]at e;cases e),fun m hm=>?_⟩
  rw[hr]at hm
  simp only [List.mem_cons,List.not_mem_nil,or_false]at hm
  rcases hm with rfl|rfl|rfl
  ·exact qXM h1 (fun a w h=>ihT S' n _ a w (by omega) hT h)
  ·exact qXM h2 (fun a w h=>ihU S' n _ a w (by omega) hU h)
  ·exact qXM h3 (fun a w h=>ihV S' n _ a w (by omega) hV h)
theorem qVh {id:Nat} {l:List Oper} {a:Act} {w:World} (S:World→Prop) (s:Nat) (T2:List Nat) (T:Road) (hm:P.follows .mixedOrders=true)
  (hB:(qWp l.toArray s T2 T (Array.replicate l.toArray.size false)&&Region.noSelect l.toArray&&Nat.ble (qXT T+T2.length) l.toArray.size&&(l.toArray[s]?).isSome)=true)
  (hQ:∀c a d v w,Q (.panic c) (Act.put a d v) w→Q (.panic c) a w)
  (h:road P l.toArray (Q2 P l.toArray Q T2) S T a w.drew):(Code.region id l.toArray true).wp P Q a w:=by
 simp only [Bool.and_eq_true]at hB
 obtain⟨os,hos⟩:=Option.isSome_iff_exists.1 hB.2
 exact wp_region_any hm (qWV _ _ _ _ (roadT_sound hos hQ hB.1.1.2 T S _ _ a w.drew (Nat.le_of_ble_eq_true hB.1.2) hB.1.1.1 h))
theorem tail_t {i:Nat} {T:List Nat} {o:Oper} {a:Act} {w:World} (ho:ops.toList[i]?=some o) (hg:o.guard=none) (h:∀K:Act→World→Prop,Hid (∀a w,qKH P ops Q T a w→K a w)→o.wp P a w K Q):qKH P ops Q (i::T) a w:=
 ⟨o,by simpa using ho,hg,h _ (fun _ _ h=>h)⟩
theorem tail_v {i:Nat} {T:List Nat} {o:Oper} {a:Act} {w:World} {v:Value} (ho:ops.toList[i]?=some o) (hg:o.guard=none) (hy:(execOp a.eval o).run P w=.ok (.value v) w) (h:qKH P ops Q T (a.put o.dst v) w):qKH P ops Q (i::T) a w:=
 ⟨o,by simpa using ho,hg,by unfold Oper.wp;rw [hy];exact h⟩
theorem qXp {T:List Nat} {a:Act} {w:World} (h:qKH P ops Q T a w):road P ops (Q2 P ops Q T) S .done a w:=h
theorem tail_nil {a:Act} {w:World} (h:Q .normal a w):qKH P ops Q [] a w:=h
end
end Go.Proofs.YtlocplkjokoknaaGreat
