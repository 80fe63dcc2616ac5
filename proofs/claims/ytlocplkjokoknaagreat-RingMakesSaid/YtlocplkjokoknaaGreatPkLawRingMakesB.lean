/- Part 2 of what the law LawRingMakes needs. No condition but those each theorem states. -/
import Derived.ArgAppend
import Derived.ChangeKeysEq
import Derived.Deep.Cut
import Derived.Deep.DrawnRows
import Derived.Deep.OwnRows
import Derived.Deep.RegionHeld3
import Derived.DeepKeys
import Derived.Defers
import Derived.Laws.CopyOwn
import Derived.Laws.Pointers
import Derived.Recover
import Derived.Test.YtlocplkjokoknaaGreatProg
import Derived.Test.YtlocplkjokoknaaGreatPkLawRingMakesA
set_option linter.unusedVariables false
set_option linter.unusedSimpArgs false
set_option maxHeartbeats 32000000
set_option maxRecDepth 100000
open List renaming getD_eq_getElem?_getD → kQa, replicate → kQc, getElem?_toArray → kQd, getElem?_cons_succ → kQe, toList_toArray → kQf, getElem?_cons_zero → kQg, getElem?_eq_getElem → kQi, length_append → kQj, filterMap_cons → kQl, filterMap_nil → kQm, take_of_length_le → kQn, length_take → kQp, getElem?_append_right → kQq, map_toArray → kQs, drop_of_length_le → kQt, mem_of_getElem? → kQu, length_drop → kQv, map_cons → kQw
open Nat renaming lt_of_lt_of_le → kQb, le_refl → kQh, le_trans → kQk, eq_of_beq_eq_true → kQr
open Option renaming map_some → kQo
namespace Go.Proofs.YtlocplkjokoknaaGreat
open Go.RowKit
attribute [local go_sem ↓] Go.wp_at_zero Go.wp_at_succ
theorem qVJ {o:Oper} {a:Act} (x y:Operand) (ho:o.op=.build 130 #[(0,x),(1,y)]) (k bs:List UInt8) (hk:k.length=32) (hx:a.eval x=.agg (W8 k)) (hy:a.eval y=.string (strB bs)) (W:World) :
  (execOp a.eval o).run Tryz.prog W=.ok (.value (.agg (WhoL k bs).toArray)) W:=by
 match k,hk with
 | [k0,k1,k2,k3,k4,k5,k6,k7,k8,k9,k10,k11,k12,k13,k14,k15,k16,k17,k18,k19,k20,k21,k22,k23,k24,k25,k26,k27,k28,k29,k30,k31],_=>
  have h2:∀(s:ByteArray) (v0 v1 v2 v3 v4 v5 v6 v7 v8 v9 v10 v11 v12 v13 v14 v15 v16 v17 v18 v19 v20 v21 v22 v23 v24 v25 v26 v27 v28 v29 v30 v31:Value) (W:World),
    (Instr.build 130 #[(0,.agg #[v0,v1,v2,v3,v4,v5,v6,v7,v8,v9,v10,v11,v12,v13,v14,v15,v16,v17,v18,v19,v20,v21,v22,v23,v24,v25,v26,v27,v28,v29,v30,v31]),(1,.string s)]).run Tryz.prog W=.ok (.agg #[v0,v1,v2,v3,v4,v5,v6,v7,v8,v9,v10,v11,v12,v13,v14,v15,v16,v17,v18,v19,v20,v21,v22,v23,v24,v25,v26,v27,v28,v29,v30,v31,.string s]) W:=by
   intros
   kernel_rfl
  unfold execOp
  simp only [ho,kQs,kQw,List.map_nil,hx,hy,Sem.run_bind,Sem.run_pure]
  simp only [WhoL,W8,B8,kQs,kQw,List.map_nil,List.cons_append,List.nil_append,h2,Result.andThen_ok]
theorem WhoL_one (k bs:List UInt8):(WhoL k bs).toArray.all (·.oneCell')=true:=all_oneCell_toArray (by
 intro v hv
 simp only [WhoL,List.mem_append,B8,List.mem_map,List.mem_cons,List.mem_nil_iff,or_false]at hv
 rcases hv with ⟨x,_,rfl⟩|rfl<;>rfl)
theorem bseal_ideal (w0:World) (g S D b lo:Nat) (s:BSt) (w:World) (h:BoxB w0 g S D b lo s w) (hmo:s.mode=1) (e:Ent) (hk:e.key.length=32) (Ab:Option Addr) (qb cb:Nat) (hqb:e.beside.length=qb) (hRb:RdB w Ab e.beside) (hb2:qb≤60000)
  (A:Option Addr) (q c:Nat) (hq:e.text.length=q) (hc:q≤c) (hR:RdB w A e.text) (hO:e.text≠[]→∀a,A=some a→a.block≠g∧a.block≠S∧a.block≠b)
  (hq2:q≤60000) (hu:s.u+8*(q+28)≤900000) (hF:s.F.length≤100000) (hm:s.m.length≤10000) (hn:s.n≤100000) (hlo:lo≤w.heap.size) :
  Calls Tryz.prog 48 #[.pointer (some ⟨g,0,none⟩),.agg (W8 e.key),.slice Ab qb cb,.slice A q c] w (IdealP w0 g S D b lo w (qZf 8 s e)):=by
 have H:=Lh h
 have HK:=Lh hk
 have HB:=Lh hqb
 have RB:=Lh hRb
 have HQ:=Lh hq
 have HC:=Lh hc
 have HR:=Lh hR
 have HO:=Lh hO
 have Q2:=Lh hq2
 have HU:=Lh hu
 have HF:=Lh hF
 have HM:=Lh hm
 have HN:=Lh hn
 have HL:=Lh hlo
 have MO:=Lh (show(s.mode:Int)=1 by omega)
 have d1:decide ((65536:Int)<(q:Int))=false:=by simp;omega
 have d2:decide ((65536:Int)<(qb:Int))=false:=by simp;omega
 have d3:decide (65536<q)=false:=by simp;omega
 have d4:decide (65536<qb)=false:=by simp;omega
 obtain⟨cs,hcs⟩:∃cs,cs=(WhoL e.key e.beside).toArray:=⟨_,rfl⟩
 have CE:=Lh hcs
 have CO:=Lh (show cs.all (·.oneCell')=true by rw [hcs];exact WhoL_one _ _)
 have CS:=Lh (show cs.size=33 by rw [hcs,qJP _ _ hk])
 have Z:=Lh (show(Tryz.prog.info? 130).map (·.size)=some cs.size by rw [CS.out];exact qKu)
 have ZK:=Lh (show(Tryz.prog.info? 38).map (·.size)=some (W8 e.key).size by rw [qQw,hk];kernel_rfl)
 obtain⟨r,hr⟩:∃r,r=qZf 8 s e:=⟨_,rfl⟩
 have RH:=Lh hr
 rw[←hr]
 clear h hmo hk hqb hRb hb2 hq hc hR hO hq2 hu hF hm hn hlo hcs hr
 go_enter Tryz.func48,Tryz.ntmps48
 go_upto_region 1 with fail
 generalize hw1:World.alloc w _=w1
 have M1:=Lh (show w1.heap[w.heap.size]?=some (.cells (W8 e.key) 38 (0,0)) by rw [←hw1];exact qQk _ _ _ rfl)
 have B1:=Lh (show Below w.heap.size w w1 by rw [←hw1];exact qQh _ _)
 clear hw1
 go_wp2_with fail
 refine(qWi w0 g S D b lo s w1 (H.out.keep B1.out)).mono ?_
 rintro e2 wd ⟨rfl,hw⟩
 rw[hw]
 clear hw wd
 go_upto_region 6 with (first
  | (refine qQa rfl (qQj 38 (.tmp 5) rfl w.heap.size rfl 38 (W8 e.key) (0,0) _ M1.out Tryz.underlying38 rfl ZK.out) ?_)
  | (refine qQa rfl (qZo 22 9 (.tmp 24) rfl Tryz.underlying22 Tryz.underlying5 Tryz.underlying9 (RB.out.keep B1.out) qb cb HB.out rfl) ?_)
  | (refine qQa rfl (show(execOp _ _).run _ _=.ok (.value (.agg cs)) _ by rw [CE.out];exact qVJ (.tmp 23) (.tmp 25) rfl e.key e.beside HK.out rfl rfl _) ?_)
  | (refine qQp rfl rfl 130 (.tmp 10) (.tmp 26) rfl cs rfl rfl Z.out ?c1 CO.out ?_))
 case c1=>rw [CS.out];rfl
 generalize hM:Array.size (World.heap w1)=M
 generalize hw2:World.alloc w1 _=w2
 have M2:=Lh (show w2.heap[M]?=some (.cells cs 130 (0,0)) by rw [←hw2];exact qQk _ _ _ hM.symm)
 have B2:=Lh (show Below w.heap.size w w2 by rw [←hw2];exact B1.out.alloc B1.out.size _)
 clear hM hw2
 have H2:=Lh (H.out.keep B2.out)
 have c0:=qQg H2.out.row 0 rfl
 rw[MO.out]at c0
 go_wp2_with (refine qQa rfl (qQj 130 (.tmp 10) rfl M rfl 130 cs (0,0) _ M2.out Tryz.underlying130 rfl Z.out) ?_)
 rw[CE.out]
 refine(ideal_any w0 g S D b lo s w2 H2.out e HK.out A q c HQ.out HC.out (HR.out.keep B2.out) HO.out Q2.out HU.out HF.out HM.out HN.out (kQk HL.out B2.out.size)).mono ?_
 rw[←RH.out]
 rintro e2 w3 ⟨A3,m3,c3,rfl,hr3,hl3,hc3,hb3,hx3,hf3⟩
 have R3:=Lh hr3
 have L3:=Lh hl3
 have C3:=Lh hc3
 have BB3:=Lh hb3
 have X3:=Lh hx3
 have F3:=Lh hf3
 clear hr3 hl3 hc3 hb3 hx3 hf3 c0
 obtain⟨kk,hkk⟩:∃kk:Int,kk=(if r.2.isSome then 0 else 15):=⟨_,rfl⟩
 have KE:=Lh hkk
 rw[←hkk]
 clear hkk
 go_wp2_with fail
 go_ret2
 exact⟨A3,m3,c3,by rw [←KE.out];rfl,R3.out,L3.out,C3.out,fun a ea=>⟨kQk B2.out.size (BB3.out a ea).1,(BB3.out a ea).2⟩,X3.out,⟨kQk B2.out.size F3.out.1,fun k h1 h2 h3 h4=>(F3.out.2 k (kQb h1 B2.out.size) h2 h3 h4).trans (B2.out.block k h1)⟩⟩
def padB (l:List UInt8):List UInt8:=l++kQc ((16-l.length % 16) % 16) 0
theorem qWc (l:List UInt8):(padB l).length=l.length+(16-l.length % 16) % 16:=by simp [padB]
theorem padB_app (a b:List UInt8):padB (padB a++b)=padB a++padB b:=by
 have h:(padB a++b).length % 16=b.length % 16:=by rw [kQj,qWc];omega
 conv=>lhs;unfold padB
 rw[show(padB a++b)=a++kQc ((16-a.length % 16) % 16) 0++b from rfl]at h
 rw[h,List.append_assoc]
 rfl
def leL (k n:Nat):List UInt8:=(List.range k).map fun i=>UInt8.ofNat (n/2 ^ (8*i))
theorem qQP (k n:Nat):(leL k n).length=k:=by simp [leL]
theorem leL_succ (k n:Nat):leL (k+1) n=leL k n++[UInt8.ofNat (n/2 ^ (8*k))]:=by simp [leL,List.range_succ]
theorem qYC (w:World) (base:Nat) (v:Value) (b:List UInt8) (A:Option Addr) (n c:Nat) (t:List UInt8) (hn:t.length=n) (ho:OwnB w base v b) (hbase:base≤w.heap.size) (hR:RdB w A t) (hl:b.length+n≤200000) :
  Calls Tryz.prog 103 #[v,.slice A n c] w fun e w'=>∃v',e=.returned v'∧OwnB w' base v' (padB (b++t))∧Below base w w':=by
 have TB:=Lh (show qXA Tryz.prog from⟨Tryz.underlying22,by kernel_rfl⟩)
 have HN:=Lh hn
 have O:=Lh ho
 have HB:=Lh hbase
 have HR:=Lh hR
 have HL:=Lh hl
 clear hn ho hbase hR hl
 go_enter Tryz.func103,Tryz.ntmps103
 go_wp2_with (refine qX1 rfl TB.out (.tmp 5) (.tmp 6) rfl base v b t A n c rfl rfl HN.out O.out HR.out HB.out (by have:=HL.out;omega) ?_)
 intro v1 w1 ho hg _
 have S:=Lh (qQi hg HB.out (fun k e=>(O.out.lt k e).1))
 obtain⟨L,hL⟩:∃L,L=b++t:=⟨_,rfl⟩
 rw[←hL]at ho
 have LE:=Lh hL
 have LN:=Lh (show L.length≤200000 by rw [hL,kQj,HN.out];exact HL.out)
 have O1:=Lh ho
 have B1:=Lh (kQk HB.out hg.size)
 clear ho hg hL O HR
 obtain⟨P,hP⟩:∃P,P=L.length+(16-L.length % 16) % 16:=⟨_,rfl⟩
 have PE:=Lh hP
 clear hP
 go_wp2_with fail
 go_loopw [0] (fun u wr=>∃j:Nat,L.length+j≤P∧OwnB wr base u (L++kQc j 0)∧Below base w wr∧base≤wr.heap.size) (fun u _=>P-lenOf u)
 case atStart=>exact⟨0,by have:=PE.out;omega,by simpa using O1.out,S.out,B1.out⟩
 case round=>
  obtain⟨j,hj,ho,hb,hs⟩:=hrel
  have J:=Lh hj
  have O:=Lh ho
  have S:=Lh hb
  have SZ:=Lh hs
  obtain⟨A2,c2,hu,_⟩:=ho.read
  have hlen:(L++kQc j 0).length=L.length+j:=by simp
  rw[hlen]at hu
  obtain⟨m,hm⟩:∃m,m=L.length+j:=⟨_,rfl⟩
  rw[←hm]at hu hj
  have ME:=Lh hm
  have LL:=Lh (show(L++kQc j 0).length=m by rw [hlen,hm])
  have mb:(m:Int)≤300000:=by have:=PE.out;have:=LN.out;omega
  rw[hu]at O ⊢
  have PM:=Lh hj
  clear hj ho hb hs hlen hm hu
  by_cases h16:m % 16=0
  ·have e1:(((m:Int) % 16)==0)=true:=by simp;omega
   have e2:(((m:Int) % 16) != 0)=false:=by simp;omega
   have hD:decide ((m:Int) % 16=0)=true:=by simp;omega
   have JE:=Lh (show j=(16-L.length % 16) % 16 by have:=PE.out;have:=ME.out;have:=J.out;omega)
   clear h16
   go_wp2_with fail
   go_ret
   refine⟨_,rfl,?_,S.out⟩
   have:=O.out
   rw[JE.out]at this
   rw[←LE.out]
   exact this
  ·have e1:(((m:Int) % 16)==0)=false:=by simp;omega
   have e2:(((m:Int) % 16) != 0)=true:=by simp;omega
   have hD:decide ((m:Int) % 16=0)=false:=by simp;omega
   have MP:=Lh (show m<P by have:=PE.out;have:=ME.out;have:=PM.out;omega)
   clear h16
   go_wp2_with (refine qX1 rfl TB.out (.tmp 12) (.tmp 13) rfl base _ (L++kQc j 0) [0] (some ⟨wr.heap.size,0,none⟩) 1 1 rfl rfl rfl (O.out.alloc _) (RdB.one (y:=0) (qQg (fr:=(0,0)) (qQk wr _ _ rfl) 0 rfl)) ?c1 ?c2 ?_)
   case c1=>have:=SZ.out;rw [qQD];omega
   case c2=>have:=LL.out;have:=MP.out;have:=PE.out;have:=LN.out;omega
   intro v2 w2 ho hg _
   have B2:Below base w (wr.alloc (.cells #[.int .u8 0] 5)):=S.out.alloc SZ.out _
   have S2:=Lh (B2.trans (qQi hg (by rw [qQD];have:=SZ.out;omega) (fun k e=>(O.out.lt k e).1)))
   have SZ2:=Lh (show base≤w2.heap.size by have:=hg.size;rw [qQD]at this;have:=SZ.out;omega)
   have O2:=Lh (show OwnB w2 base v2 (L++kQc (j+1) 0) by rw [List.replicate_succ'];exact ho)
   have VL:=Lh (show lenOf v2=m+1 by
    obtain⟨A3,c3,e3,_⟩:=O2.out.read
    rw[e3]
    show(L++kQc (j+1) 0).length=m+1
    have:=LL.out
    simp at this ⊢
    omega)
   clear ho hg B2
   go_wp2_with fail
   go_roundw
   case rel=>exact⟨j+1,by have:=MP.out;have:=ME.out;omega,O2.out,S2.out,SZ2.out⟩
   case measure=>rw [VL.out];show P-(m+1)<P-m;have:=MP.out;omega
theorem qYN (n r:Nat) (hn:n≤1000000):∃z:UInt8,Hid (z=UInt8.ofNat (n/2 ^ (8*r)))∧IntKind.u8.wrap ((n:Int)/2 ^ (8*r))=(z.toNat:Int):=by
 refine⟨_,rfl,?_⟩
 rw[IntKind.wrap_u8]
 have:((n:Int)/2 ^ (8*r))=((n/2 ^ (8*r):Nat):Int):=by
  rw[Int.natCast_ediv,Int.natCast_pow];rfl
 rw[this]
 simp
theorem count_any (w:World) (base:Nat) (v:Value) (b:List UInt8) (ho:OwnB w base v b) (hbase:base≤w.heap.size) (n:Nat) (hn:n≤1000000) (hl:b.length≤1000000) :
  Calls Tryz.prog 105 #[v,.int .i64 (n:Int)] w fun e w'=>∃v',e=.returned v'∧OwnB w' base v' (b++leL 8 n)∧Below base w w':=by
 have TB:=Lh (show qXA Tryz.prog from⟨Tryz.underlying22,by kernel_rfl⟩)
 have O:=Lh ho
 have HB:=Lh hbase
 have HN:=Lh hn
 have HL:=Lh hl
 have nb:(n:Int)≤1000000:=by omega
 have e0:IntKind.u64.wrap (n:Int)=(n:Int):=by rw [IntKind.wrap_u64];omega
 clear ho hbase hn hl
 go_enter Tryz.func105,Tryz.ntmps105
 go_wp2_with fail
 go_loopw [0,6] (fun u i wr=>∃r:Nat,r≤8∧i=.int .i64 (r:Int)∧OwnB wr base u (b++leL r n)∧Below base w wr∧base≤wr.heap.size) (fun _ i _=>8-(intOf i).toNat)
 case atStart=>exact⟨0,by omega,rfl,by simpa [leL]using O.out,Below.refl _ _,HB.out⟩
 case round=>
  obtain⟨r,hr,rfl,ho,hb,hs⟩:=hrel
  have R:=Lh hr
  have O:=Lh ho
  have S:=Lh hb
  have SZ:=Lh hs
  clear hr ho hb hs
  by_cases hlt:r<8
  ·have hD:decide ((r:Int)<8)=true:=by simp;omega
   have R8:=Lh hlt
   have e2:8*(r:Int)≤64:=by omega
   have e4:(8*(r:Int)).toNat=8*r:=by omega
   obtain⟨z,hz,e3⟩:=qYN n r HN.out
   have LL:=Lh (show(b++leL r n).length≤1000008 by rw [kQj,qQP];have:=HL.out;omega)
   clear hlt
   go_wp2_with (refine qX1 rfl TB.out (.tmp 9) (.tmp 16) rfl base u0 (b++leL r n) [z] (some ⟨wr.heap.size,0,none⟩) 1 1 rfl rfl rfl (O.out.alloc _) (RdB.one (qQg (fr:=(0,0)) (qQk wr _ _ rfl) 0 rfl)) ?c1 ?c2 ?_)
   case c1=>have:=SZ.out;rw [qQD];omega
   case c2=>have:=LL.out;omega
   intro v2 w2 ho hg _
   have B2:Below base w (wr.alloc (.cells #[.int .u8 (z.toNat:Int)] 5)):=S.out.alloc SZ.out _
   have S2:=Lh (B2.trans (qQi hg (by rw [qQD];have:=SZ.out;omega) (fun k e=>(O.out.lt k e).1)))
   have SZ2:=Lh (show base≤w2.heap.size by have:=hg.size;rw [qQD]at this;have:=SZ.out;omega)
   have O2:=Lh (show OwnB w2 base v2 (b++leL (r+1) n) by rw [leL_succ,←hz.out];exact ho)
   clear ho hg B2 hD
   go_wp2_with fail
   go_roundw
   case rel=>exact⟨r+1,by have:=R8.out;omega,by go_num,O2.out,S2.out,SZ2.out⟩
   case measure=>have:=R8.out;simp [intOf];omega
  ·have hD:decide ((r:Int)<8)=false:=by simp;omega
   have RE:=Lh (show r=8 by have:=R.out;omega)
   go_wp2_with fail
   go_ret
   exact⟨_,rfl,by have:=O.out;rwa [RE.out]at this,S.out⟩
end Go.Proofs.YtlocplkjokoknaaGreat
namespace Go.Proofs.YtlocplkjokoknaaGreat
open Go.RowKit
def mixL (l:List UInt32) (a b c d f s:Nat):List UInt32:=
 let l1:=l.set a (l.getD a 0+l.getD b 0)
 let l2:=l1.set d (rotl (l1.getD d 0 ^^^ l1.getD a 0) f)
 let l3:=l2.set c (l2.getD c 0+l2.getD d 0)
 l3.set b (rotl (l3.getD b 0 ^^^ l3.getD c 0) s)
theorem qK2 (l:List UInt32) (a b c d f s:Nat):(mixL l a b c d f s).length=l.length:=by simp [mixL]
def StOK (w:World) (g:Nat) (l:List UInt32) (W:World):Prop:=W.heap[g]?=some (.cells (W32 l) 219 (0,0))∧w.grownBy W (some g)
theorem StOK.cell {w W:World} {g:Nat} {l:List UInt32} (h:StOK w g l W) (i:Nat) (hi:i<l.length):W.cell? ⟨g,i,none⟩=some (.int .u32 ((l.getD i 0).toNat:Int)):=qQg h.1 i (qQZ l i hi)
theorem StOK.pick {w W:World} {g:Nat} {l:List UInt32} (h:StOK w g l W) (i:Nat) (hi:i<l.length):∃x:UInt32,Hid (x=l.getD i 0)∧W.cell? ⟨g,i,none⟩=some (.int .u32 (x.toNat:Int)):=⟨_,rfl,h.cell i hi⟩
theorem StOK.free {w W:World} {g:Nat} {l:List UInt32} (h:StOK w g l W) (i:Nat):W.frozen? ⟨g,i,none⟩=false:=qQz h.1 i
theorem StOK.set {w W:World} {g:Nat} {l:List UInt32} (h:StOK w g l W) (i:Nat) (x:UInt32) (v:Int) (hv:v=(x.toNat:Int)):StOK w g (l.set i x) (W.setCell ⟨g,i,none⟩ (.int .u32 v)):=by
 subst hv
 exact⟨by rw [heap_setCell_same _ _ _ _ _ _ h.1,qVD],qQF h.2 _ _⟩
theorem StOK.drew {w W:World} {g:Nat} {l:List UInt32} (h:StOK w g l W):StOK w g l W.drew:=⟨h.1,qZS h.2⟩
theorem StOK.refl {w:World} {g:Nat} {l:List UInt32} (h:w.heap[g]?=some (.cells (W32 l) 219 (0,0))):StOK w g l w:=⟨h,World.grownBy.refl _ _⟩
theorem StOK.trans {w W W':World} {g:Nat} {l l':List UInt32} (h:StOK w g l W) (h':StOK W g l' W'):StOK w g l' W':=⟨h'.1,World.grownBy.trans h.2 h'.2⟩
theorem mix_any (g:Nat) (l:List UInt32) (hl:l.length=16) (w:World) (H:StOK w g l w) (a b c d f s:Nat) (ha:(a:Int)<16) (hb:(b:Int)<16) (hc:(c:Int)<16) (hd:(d:Int)<16)
  (hf:(f:Int)<32) (hf0:(0:Int)<f) (hkf:bits .and .u64 (IntKind.u64.wrap (f:Int)) 31=(f:Int)) (hs:(s:Int)<32) (hs0:(0:Int)<s) (hks:bits .and .u64 (IntKind.u64.wrap (s:Int)) 31=(s:Int)) :
  Calls Tryz.prog 138 #[.pointer (some ⟨g,0,none⟩),.int .i64 (a:Int),.int .i64 (b:Int),.int .i64 (c:Int),.int .i64 (d:Int),.int .i64 (f:Int),.int .i64 (s:Int)] w fun e w'=>
   e=.returned (.tuple #[])∧StOK w g (mixL l a b c d f s) w':=by
 have HL:=Lh hl
 have K1:=Lh hkf
 have K2:=Lh hks
 have H0:=Lh H
 obtain⟨x,hx,a1⟩:=H.pick a (by omega)
 obtain⟨y,hy,a2⟩:=H.pick b (by omega)
 have a3:=H.free a
 clear hkf hks H hl
 go_enter Tryz.func138,Tryz.ntmps138
 go_wp2
 go_region
 go_wp2
 clear a1 a2 a3
 refine qZ1 (fun W=>StOK w g (l.set a (l.getD a 0+l.getD b 0)) W) ((H0.out.set a _ _ (by rw [←hx.out,←hy.out];exact qZY _ _)).drew) ?_
 clear hx hy
 generalize hl1:l.set a (l.getD a 0+l.getD b 0)=l1
 have HL1:=Lh hl1
 have N1:=Lh (show l1.length=16 by rw [←hl1];simpa using HL.out)
 clear hl1
 rintro w1 H1'
 have H1:=Lh H1'
 obtain⟨x1,hx,a1⟩:=H1'.pick d (by have:=N1.out;omega)
 obtain⟨y1,hy,a2⟩:=H1'.pick a (by have:=N1.out;omega)
 have a3:=H1'.free d
 clear H1'
 obtain⟨z1,hz,X⟩:=qX2 x1 y1
 go_still_tail 17,(by kernel_rfl)
 still_call (rot_any _ _ _ f hf hf0 K1.out)
 repeat still_step
 refine wpStill_nil ?_
 change wpList _ _ _ _ _ w1.drew
 go_wp2
 clear a1 a2 a3 X
 refine qZ1 (fun W=>StOK w g (l1.set d (rotl (l1.getD d 0 ^^^ l1.getD a 0) f)) W) (by rw [←hx.out,←hy.out,←hz.out];exact(H1.out.set d _ _ rfl).drew) ?_
 clear hx hy hz
 generalize hl2:l1.set d (rotl (l1.getD d 0 ^^^ l1.getD a 0) f)=l2
 have HL2:=Lh hl2
 have N2:=Lh (show l2.length=16 by rw [←hl2];simpa using N1.out)
 clear hl2
 rintro w2 H2'
 have H2:=Lh H2'
 obtain⟨x2,hx,a1⟩:=H2'.pick c (by have:=N2.out;omega)
 obtain⟨y2,hy,a2⟩:=H2'.pick d (by have:=N2.out;omega)
 have a3:=H2'.free c
 clear H2'
 go_region
 go_wp2
 clear a1 a2 a3
 refine qZ1 (fun W=>StOK w g (l2.set c (l2.getD c 0+l2.getD d 0)) W) ((H2.out.set c _ _ (by rw [←hx.out,←hy.out];exact qZY _ _)).drew) ?_
 clear hx hy
 generalize hl3:l2.set c (l2.getD c 0+l2.getD d 0)=l3
 have HL3:=Lh hl3
 have N3:=Lh (show l3.length=16 by rw [←hl3];simpa using N2.out)
 clear hl3
 rintro w3 H3'
 have H3:=Lh H3'
 obtain⟨x3,hx,a1⟩:=H3'.pick b (by have:=N3.out;omega)
 obtain⟨y3,hy,a2⟩:=H3'.pick c (by have:=N3.out;omega)
 have a3:=H3'.free b
 clear H3'
 obtain⟨z3,hz,X⟩:=qX2 x3 y3
 go_still_tail 17,(by kernel_rfl)
 still_call (rot_any _ _ _ s hs hs0 K2.out)
 repeat still_step
 refine wpStill_nil ?_
 change wpList _ _ _ _ _ w3.drew
 go_wp2
 go_end0
 refine⟨rfl,?_⟩
 have F:StOK w g (l3.set b (rotl (l3.getD b 0 ^^^ l3.getD c 0) s)) (w3.setCell ⟨g,b,none⟩ (.int .u32 ((rotl z3 s).toNat:Int))).drew:=by rw [←hx.out,←hy.out,←hz.out];exact(H3.out.set b _ _ rfl).drew
 have E:l3.set b (rotl (l3.getD b 0 ^^^ l3.getD c 0) s)=mixL l a b c d f s:=by
  rw[←HL3.out,←HL2.out,←HL1.out];rfl
 rw[←E];exact F
def qZa (l:List UInt32) (a b c d:Nat):List UInt32:=mixL (mixL l a b c d 16 12) a b c d 8 7
theorem qQ6 (l:List UInt32) (a b c d:Nat):(qZa l a b c d).length=l.length:=by simp [qZa,qK2]
def stepL (l:List UInt32) (y i:Nat):List UInt32:=qZa l i (4+(i+y) % 4) (8+(i+2*y) % 4) (12+(i+3*y) % 4)
def dblK (l:List UInt32):Nat→List UInt32
 | 0=>l
 | k+1=>stepL (dblK l k) (k/4) (k % 4)
theorem qYa (l:List UInt32) (k:Nat):(dblK l k).length=l.length:=by
 induction k with
 | zero=>rfl
 | succ k ih=>rw [dblK,stepL,qQ6,ih]
theorem quarter_nat (g:Nat) (l:List UInt32) (hl:l.length=16) (w:World) (H:StOK w g l w) (a b c d:Nat) (ha:(a:Int)<16) (hb:(b:Int)<16) (hc:(c:Int)<16) (hd:(d:Int)<16) :
  Calls Tryz.prog 134 #[.pointer (some ⟨g,0,none⟩),.int .i64 (a:Int),.int .i64 (b:Int),.int .i64 (c:Int),.int .i64 (d:Int)] w fun e w'=>
   e=.returned (.tuple #[])∧StOK w g (qZa l a b c d) w':=by
 have C1:=mix_any g l hl w H a b c d 16 12 ha hb hc hd (by decide) (by decide) (by decide) (by decide) (by decide) (by decide)
 have HL:=Lh hl
 have H0:=Lh H
 have K1:=Lh C1
 clear hl H C1
 go_enter Tryz.func134,Tryz.ntmps134
 go_wp2_with fail
 refine K1.out.mono ?_
 rintro e w1 ⟨rfl,H1'⟩
 have H1:=Lh H1'
 clear H1'
 go_wp2_with fail
 refine(mix_any g (mixL l a b c d 16 12) (by rw [qK2];exact HL.out) _ (StOK.refl H1.out.1) a b c d 8 7 ha hb hc hd (by decide) (by decide) (by decide) (by decide) (by decide) (by decide)).mono ?_
 rintro e w2 ⟨rfl,H2'⟩
 have H2:=Lh H2'
 clear H2'
 go_wp2_with fail
 go_end0
 exact⟨rfl,H1.out.trans H2.out⟩
theorem quarter_any (g:Nat) (l:List UInt32) (hl:l.length=16) (w:World) (H:StOK w g l w) (a b c d:Int) (ha:0≤a∧a<16) (hb:0≤b∧b<16) (hc:0≤c∧c<16) (hd:0≤d∧d<16) :
  Calls Tryz.prog 134 #[.pointer (some ⟨g,0,none⟩),.int .i64 a,.int .i64 b,.int .i64 c,.int .i64 d] w fun e w'=>
   e=.returned (.tuple #[])∧StOK w g (qZa l a.toNat b.toNat c.toNat d.toNat) w':=by
 obtain⟨a,rfl⟩:=Int.eq_ofNat_of_zero_le ha.1
 obtain⟨b,rfl⟩:=Int.eq_ofNat_of_zero_le hb.1
 obtain⟨c,rfl⟩:=Int.eq_ofNat_of_zero_le hc.1
 obtain⟨d,rfl⟩:=Int.eq_ofNat_of_zero_le hd.1
 exact quarter_nat g l hl w H a b c d ha.2 hb.2 hc.2 hd.2
theorem row_any (r i y:Int) (hr:0≤r∧r<4) (hi:0≤i∧i<4) (hy:0≤y∧y<8) (w:World) :
  Calls Tryz.prog 135 #[.int .i64 r,.int .i64 i,.int .i64 y] w fun e w'=>e=.returned (.int .i64 (4*r+(i+y) % 4))∧w=w':=by
 go_enter Tryz.func135,Tryz.ntmps135
 go_wp2
 go_ret
 exact⟨rfl,rfl⟩
theorem double_any (g:Nat) (l:List UInt32) (hl:l.length=16) (w:World) (H:StOK w g l w) :
  Calls Tryz.prog 120 #[.pointer (some ⟨g,0,none⟩)] w fun e w'=>e=.returned (.tuple #[])∧StOK w g (dblK l 8) w':=by
 have HL:=Lh hl
 have H0:=Lh H
 clear hl H
 go_enter Tryz.func120,Tryz.ntmps120
 go_wp2
 go_loopw [4] (fun i wr=>∃y:Nat,y≤2∧i=.int .i64 (y:Int)∧StOK w g (dblK l (4*y)) wr) (fun i _=>2-(intOf i).toNat)
 case atStart=>exact⟨0,by omega,rfl,H0.out⟩
 case round=>
  obtain⟨y,hy,rfl,H1'⟩:=hrel
  have H1:=Lh H1'
  clear H1' H0
  by_cases hlt:y<2
  ·obtain⟨wo,rfl⟩:∃wo:World,wo=wr:=⟨_,rfl⟩
   have hD:decide ((y:Int)<2)=true:=by simp;omega
   go_wp2_with fail
   go_loopw [7] (fun i wr=>∃j:Nat,j≤4∧i=.int .i64 (j:Int)∧StOK w g (dblK l (4*y+j)) wr) (fun i _=>4-(intOf i).toNat)
   case atStart=>exact⟨0,by omega,rfl,H1.out⟩
   case round=>
    obtain⟨j,hj,rfl,H2'⟩:=hrel
    have H2:=Lh H2'
    clear H2' H1
    by_cases hlt2:j<4
    ·go_wp2_with fail
     refine(row_any _ _ _ (by omega) (by omega) (by omega) _).mono ?_
     rintro e w1 ⟨rfl,rfl⟩
     go_wp2_with fail
     refine(row_any _ _ _ (by omega) (by omega) (by omega) _).mono ?_
     rintro e w1 ⟨rfl,rfl⟩
     go_wp2_with fail
     refine(row_any _ _ _ (by omega) (by omega) (by omega) _).mono ?_
     rintro e w1 ⟨rfl,rfl⟩
     go_wp2_with fail
     refine(quarter_any g (dblK l (4*y+j)) (by rw [qYa];exact HL.out) _ (StOK.refl H2.out.1) _ _ _ _ (by omega) (by omega) (by omega) (by omega)).mono ?_
     rintro e w1 ⟨rfl,H3'⟩
     have H3:=Lh (H2.out.trans H3')
     clear H3'
     go_wp2_with fail
     go_roundw
     case rel=>
      refine⟨j+1,by omega,by go_num,?_⟩
      have:=H3.out
      rw[show 4*y+(j+1)=4*y+j+1 by omega,dblK,stepL,show(4*y+j)/4=y by omega,show(4*y+j) % 4=j by omega]
      rw[show((j:Int)).toNat=j by omega,show(4+((j:Int)+(y:Int)) % 4).toNat=4+(j+y) % 4 by omega,show(8+((j:Int)+2*(y:Int)) % 4).toNat=8+(j+2*y) % 4 by omega,show(12+((j:Int)+3*(y:Int)) % 4).toNat=12+(j+3*y) % 4 by omega]at this
      exact this
     case measure=>simp [intOf];omega
    ·have hj4:j=4:=by omega
     subst hj4
     go_wp2_with fail
     go_roundw
     case rel=>exact⟨y+1,by omega,by go_num,by have:=H2.out;rw [show 4*(y+1)=4*y+4 by omega];exact this⟩
     case measure=>simp [intOf];omega
  ·have hy2:y=2:=by omega
   subst hy2
   go_wp2_with fail
   go_end0
   exact⟨rfl,H1.out⟩
def qKp (l:List UInt32) (p:Nat) (bs:List UInt8):Nat→List UInt32
 | 0=>l
 | k+1=>(qKp l p bs k).set (p+k/4) ((qKp l p bs k).getD (p+k/4) 0 ||| (bs.getD k 0).toUInt32 <<< (UInt32.ofNat (8*(k % 4))))
theorem qWt (l:List UInt32) (p:Nat) (bs:List UInt8) (k:Nat):(qKp l p bs k).length=l.length:=by
 induction k with
 | zero=>rfl
 | succ k ih=>simp [qKp,ih]
theorem load_word (x:UInt32) (y:UInt8) (n:Nat) (hn:n<32) :
  bits .or .u32 (x.toNat:Int) ((y.toNat:Int)*2 ^ n % 4294967296)=((x ||| y.toUInt32 <<< (UInt32.ofNat n)).toNat:Int):=by
 have h1:(y.toNat:Int)*2 ^ n % 4294967296=((y.toNat*2 ^ n % 4294967296:Nat):Int):=by
  rw[Int.natCast_emod,Int.natCast_mul,Int.natCast_pow];rfl
 have e1:(UInt32.ofNat n).toNat=n:=by simp;omega
 rw[h1,u32_or_nat _ _ x.toNat_lt (by omega),UInt32.toNat_or,UInt32.toNat_shiftLeft,e1,Nat.mod_eq_of_lt hn,Nat.shiftLeft_eq,UInt8.toNat_toUInt32]
theorem load_any (g:Nat) (l:List UInt32) (hl:l.length=16) (w:World) (H:StOK w g l w) (p:Nat) (A:Option Addr) (bs:List UInt8) (c:Nat) (hR:RdB w A bs) (hoff:Off A g) (hp:p*4+bs.length≤64) :
  Calls Tryz.prog 119 #[.pointer (some ⟨g,0,none⟩),.int .i64 (p:Int),.slice A bs.length c] w fun e w'=>e=.returned (.tuple #[])∧StOK w g (qKp l p bs bs.length) w':=by
 have HL:=Lh hl
 have H0:=Lh H
 have HR:=Lh hR
 have HO:=Lh hoff
 clear hl H hR hoff
 go_enter Tryz.func119,Tryz.ntmps119
 go_wp2
 go_loopw [10] (fun i wr=>∃k:Nat,k≤bs.length∧i=.int .i64 (k:Int)∧StOK w g (qKp l p bs k) wr) (fun i _=>bs.length-(intOf i).toNat)
 case atStart=>exact⟨0,by omega,rfl,H0.out⟩
 case round=>
  obtain⟨k,hk,rfl,H1'⟩:=hrel
  have H1:=Lh H1'
  clear H1'
  by_cases hlt:k<bs.length
  ·obtain⟨b,o,rfl,y,hy,a1⟩:=(HR.out.grown H1.out.2 (fun _ e=>by cases e;exact HO.out)).get k hlt
   obtain⟨x,hx,a2⟩:=H1.out.pick (p+k/4) (by rw [qWt,HL.out];omega)
   have a3:=H1.out.free (p+k/4)
   have hb8:=u8_lt y
   go_wp2
   go_region
   go_wp2
   go_roundw
   case rel=>
    refine⟨k+1,by omega,by go_num,?_⟩
    rw[load_word x y (8*(k % 4)) (by omega)]
    refine(H1.out.set (p+k/4) _ _ ?_).drew
    rw[←hx.out,←hy.out]
   case measure=>simp [intOf];omega
  ·have hk':k=bs.length:=by omega
   subst hk'
   go_wp2
   go_end0
   exact⟨rfl,H1.out⟩
theorem load_len (g:Nat) (l:List UInt32) (hl:l.length=16) (w:World) (H:StOK w g l w) (p:Nat) (A:Option Addr) (bs:List UInt8) (n c:Nat) (hn:bs.length=n) (hR:RdB w A bs) (hoff:Off A g) (hp:p*4+n≤64) :
  Calls Tryz.prog 119 #[.pointer (some ⟨g,0,none⟩),.int .i64 (p:Int),.slice A n c] w fun e w'=>e=.returned (.tuple #[])∧StOK w g (qKp l p bs n) w':=by
 subst hn
 exact load_any g l hl w H p A bs c hR hoff hp
def dblN (l:List UInt32):Nat→List UInt32
 | 0=>l
 | k+1=>dblK (dblN l k) 8
theorem qW8 (l:List UInt32) (k:Nat):(dblN l k).length=l.length:=by
 induction k with
 | zero=>rfl
 | succ k ih=>rw [dblN,qYa,ih]
def headL:List UInt32:=[0x61707865,0x3320646e,0x79622d32,0x6b206574,0,0,0,0,0,0,0,0,0,0,0,0]
def qWl (k n:List UInt8) (count:UInt32):List UInt32:=(qKp (qKp headL 4 k 32) 13 n 12).set 12 count
theorem qXx (k n:List UInt8) (count:UInt32):(qWl k n count).length=16:=by simp [qWl,qWt,headL]
def byteOf (v s:List UInt32) (i:Nat):UInt8:=((v.getD (i/4) 0+s.getD (i/4) 0) >>> (UInt32.ofNat (8*(i % 4)))).toUInt8
def outK (v s:List UInt32):Nat→List UInt8
 | 0=>kQc 64 0
 | i+1=>(outK v s i).set i (byteOf v s i)
theorem qXt (v s:List UInt32) (i:Nat):(outK v s i).length=64:=by
 induction i with
 | zero=>simp [outK]
 | succ i ih=>simp [outK,ih]
def qXK (k n:List UInt8) (count:UInt32):List UInt8:=outK (dblN (qWl k n count) 10) (qWl k n count) 64
theorem qZ0 (k n:List UInt8) (count:UInt32):(qXK k n count).length=64:=qXt _ _ _
theorem sum_ex (x y:UInt32):∃z:UInt32,Hid (z=x+y)∧IntKind.u32.wrap ((x.toNat:Int)+(y.toNat:Int))=(z.toNat:Int):=⟨_,rfl,by rw [IntKind.wrap_u32,qZY]⟩
theorem byte_ex (z:UInt32) (n:Nat) (hn:n<32):∃q:UInt8,Hid (q=(z >>> (UInt32.ofNat n)).toUInt8)∧IntKind.u8.wrap ((z.toNat:Int)/2 ^ n)=(q.toNat:Int):=by
 refine⟨_,rfl,?_⟩
 have h2:(z.toNat:Int)/2 ^ n=((z.toNat/2 ^ n:Nat):Int):=by
  rw[Int.natCast_ediv,Int.natCast_pow];rfl
 have e1:(UInt32.ofNat n).toNat=n:=by simp;omega
 rw[h2,IntKind.wrap_u8,UInt32.toNat_toUInt8,UInt32.toNat_shiftRight,e1,Nat.mod_eq_of_lt hn,Nat.shiftRight_eq_div_pow]
 omega
structure BlkW (w:World) (k n:List UInt8) (s:List UInt32) (W:World):Prop where
 bk:W.heap[w.heap.size]?=some (.cells (W8 k) 38 (0,0))
 bn:W.heap[w.heap.size+1]?=some (.cells (W8 n) 128 (0,0))
 bz:W.heap[w.heap.size+1+1]?=some (.cells (W8 (kQc 64 0)) 179 (0,0))
 bs:W.heap[w.heap.size+1+1+1]?=some (.cells (W32 s) 219 (0,0))
 bel:Below w.heap.size w W
theorem blk_start (w:World) (k n:List UInt8):BlkW w k n headL ((((w.alloc (.cells (W8 k) 38)).alloc (.cells (W8 n) 128)).alloc (.cells (W8 (kQc 64 0)) 179)).alloc (.cells (W32 headL) 219)) where
 bk:=qQM _ _ _ (by simp;omega) (qQM _ _ _ (by simp;omega) (qQM _ _ _ (by simp) (qQk _ _ _ rfl)))
 bn:=qQM _ _ _ (by simp) (qQM _ _ _ (by simp) (qQk _ _ _ (by simp)))
 bz:=qQM _ _ _ (by simp) (qQk _ _ _ (by simp))
 bs:=qQk _ _ _ (by simp)
 bel:=((((Below.refl _ _).alloc (kQh _) _).alloc (by simp) _).alloc (by simp;omega) _).alloc (by simp;omega) _
theorem BlkW.step {w W W':World} {k n:List UInt8} {s s':List UInt32} (h:BlkW w k n s W) (h':StOK W (w.heap.size+1+1+1) s' W'):BlkW w k n s' W' where
 bk:=qQd h'.2 (by simp;omega) h.bk
 bn:=qQd h'.2 (by simp) h.bn
 bz:=qQd h'.2 (by simp) h.bz
 bs:=h'.1
 bel:=h.bel.trans (qQi h'.2 (Nat.le_of_lt (qQe h.bk)) (by rintro g ⟨⟩;omega))
theorem BlkW.grown {w W W':World} {k n:List UInt8} {s:List UInt32} {M:Nat} (h:BlkW w k n s W) (h':W.grownBy W' (some M)) (hM:w.heap.size+1+1+1<M):BlkW w k n s W' where
 bk:=qQd h' (by simp;omega) h.bk
 bn:=qQd h' (by simp;omega) h.bn
 bz:=qQd h' (by simp;omega) h.bz
 bs:=qQd h' (by simp;omega) h.bs
 bel:=h.bel.trans (qQi h' (Nat.le_of_lt (qQe h.bk)) (by rintro g ⟨⟩;omega))
theorem BlkW.st {w W:World} {k n:List UInt8} {s:List UInt32} (h:BlkW w k n s W):StOK W (w.heap.size+1+1+1) s W:=StOK.refl h.bs
theorem BlkW.keep {w W W':World} {k n:List UInt8} {s:List UInt32} {B:Nat} (h:BlkW w k n s W) (h':Below B W W') (hB:w.heap.size+1+1+1<B):BlkW w k n s W' where
 bk:=qQb h' (by omega) h.bk
 bn:=qQb h' (by omega) h.bn
 bz:=qQb h' (by omega) h.bz
 bs:=qQb h' hB h.bs
 bel:=h.bel.trans (h'.mono (by omega))
theorem BlkW.lt {w W:World} {k n:List UInt8} {s:List UInt32} (h:BlkW w k n s W):w.heap.size+1+1+1<W.heap.size:=qQe h.bs
theorem block_any (k n:List UInt8) (hk:k.length=32) (hn:n.length=12) (count:UInt32) (w:World) :
  Calls Tryz.prog 102 #[.agg (W8 k),.agg (W8 n),.int .u32 (count.toNat:Int)] w fun e w'=>e=.returned (.agg (W8 (qXK k n count)))∧Below w.heap.size w w':=by
 have HK:=Lh hk
 have HN:=Lh hn
 clear hk hn
 go_enter Tryz.func102,Tryz.ntmps102
 go_wp2_with fail
 refine calls_abs (fun W=>BlkW w k n headL W) (blk_start w k n) ?_
 intro W0 H0'
 refine(load_len _ headL rfl _ H0'.st 4 (some ⟨w.heap.size,0,none⟩) k 32 32 HK.out (RdB.row H0'.bk) (by intro a e;cases e;simp;omega) (by omega)).mono ?_
 rintro e w1 ⟨rfl,H1'⟩
 replace H1':=H0'.step H1'
 have H1:=Lh H1'
 clear H1' H0' W0
 go_wp2_with fail
 refine(load_len _ _ (by rw [qWt];rfl) _ H1.out.st 13 (some ⟨w.heap.size+1,0,none⟩) n 12 12 HN.out (RdB.row H1.out.bn) (by intro a e;cases e;simp) (by omega)).mono ?_
 rintro e w2 ⟨rfl,H2'⟩
 replace H2':=H1.out.step H2'
 have H2:=Lh H2'
 obtain⟨x,hx,a1⟩:=H2'.st.pick 12 (by simp [qWt,headL])
 have a2:=H2'.st.free 12
 clear H2' H1 w1
 go_upto_region 5 with fail
 refine qZ1 (fun W=>BlkW w k n (qWl k n count) W) (H2.out.step (H2.out.st.set 12 count _ rfl)) ?_
 intro w3 H3'
 clear a1 a2 hx x H2 w2
 have H3:=Lh H3'
 clear H3'
 have Z:=Lh (show(Tryz.prog.info? 219).map (·.size)=some (W32 (qWl k n count)).size by rw [qQA,qXx];kernel_rfl)
 go_upto_region 6 with (first
  | (refine wpList_load_row rfl 219 (.tmp 7) rfl (w.heap.size+1+1+1) rfl 219 (W32 (qWl k n count)) (0,0) _ H3.out.bs Tryz.underlying219 rfl Z.out ?_)
  | (refine qQp rfl rfl 219 (.tmp 8) (.tmp 19) rfl (W32 (qWl k n count)) rfl rfl Z.out ?c1 (qZt _) ?_))
 case c1=>rw [qQA,qXx];rfl
 clear Z
 obtain⟨M,hM⟩:∃M,M=w3.heap.size:=⟨_,rfl⟩
 have hMl:w.heap.size+1+1+1<M:=by rw [hM];exact H3.out.lt
 refine qZ1 (fun W=>BlkW w k n (qWl k n count) W∧StOK W M (qWl k n count) W) ⟨H3.out.keep ((Below.refl _ _).alloc (kQh _) _) H3.out.lt,StOK.refl (qQk _ _ _ hM)⟩ ?_
 rw[←hM]
 clear hM
 have HM:=Lh hMl
 clear hMl
 rintro w4 ⟨H4',S4'⟩
 have H4:=Lh H4'
 have S4:=Lh S4'
 clear H4' S4' H3 w3
 go_wp2_with fail
 go_loopw [20] (fun i wr=>∃j:Nat,j≤10∧i=.int .i64 (j:Int)∧BlkW w k n (qWl k n count) wr∧StOK wr M (dblN (qWl k n count) j) wr) (fun i _=>10-(intOf i).toNat)
 case atStart=>exact⟨0,by omega,rfl,H4.out,S4.out⟩
 case round=>
  obtain⟨j,hj,rfl,H5',S5'⟩:=hrel
  have H5:=Lh H5'
  have S5:=Lh S5'
  clear H5' S5' H4 S4 w4
  by_cases hlt:j<10
  ·go_wp2_with fail
   refine(double_any M (dblN (qWl k n count) j) (by rw [qW8,qXx]) _ S5.out).mono ?_
   rintro e w1 ⟨rfl,S6'⟩
   have S6:=Lh S6'
   clear S6'
   go_wp2_with fail
   go_roundw
   case rel=>exact⟨j+1,by omega,by go_num,H5.out.grown S6.out.2 HM.out,StOK.refl S6.out.1⟩
   case measure=>simp [intOf];omega
  ·have hj10:Hid (j=10):=show j=10 by omega
   have hD:decide ((j:Int)<10)=false:=by simp;omega
   go_upto_region 11 with fail
   obtain⟨O,hO⟩:∃O,O=wr.heap.size:=⟨_,rfl⟩
   have hMO:M<O:=by rw [hO];exact qQe S5.out.1
   refine qZ1 (fun W=>BlkW w k n (qWl k n count) W∧StOK W M (dblN (qWl k n count) 10) W∧W.heap[O]?=some (.cells (W8 (outK (dblN (qWl k n count) 10) (qWl k n count) 0)) 179 (0,0)))
    ⟨H5.out.keep ((Below.refl _ _).alloc (kQh _) _) H5.out.lt,StOK.refl (qQM _ _ _ (qQe S5.out.1) (by rw [hj10.out]at S5;exact S5.out.1)),qQk _ _ _ hO⟩ ?_
   rw[←hO]
   have HO:=Lh hMO
   clear hO hMO hD hlt hj
   rintro w6 ⟨H6',S6',O6'⟩
   have H6:=Lh H6'
   have S6:=Lh S6'
   have O6:=Lh O6'
   clear H6' S6' O6' H5 S5 wr
   generalize hv:dblN (qWl k n count) 10=v at S6 O6
   generalize hs:qWl k n count=s at H6 O6
   have HV:=Lh (show v.length=16 by rw [←hv,qW8,qXx])
   have HS:=Lh (show s.length=16 by rw [←hs,qXx])
   have EV:=Lh hv
   have ES:=Lh hs
   clear hv hs
   go_wp2_with fail
   go_loopw [24] (fun i wr=>∃j:Nat,j≤64∧i=.int .i64 (j:Int)∧BlkW w k n s wr∧StOK wr M v wr∧wr.heap[O]?=some (.cells (W8 (outK v s j)) 179 (0,0))) (fun i _=>64-(intOf i).toNat)
   case atStart=>exact⟨0,by omega,rfl,H6.out,S6.out,O6.out⟩
   case round=>
    obtain⟨j,hj,rfl,H7',S7',O7'⟩:=hrel
    have H7:=Lh H7'
    have S7:=Lh S7'
    have O7:=Lh O7'
    clear H7' S7' O7' H6 S6 O6 w6
    by_cases hlt:j<64
    ·obtain⟨x,hx,a1⟩:=S7.out.pick (j/4) (by rw [HV.out];omega)
     obtain⟨y,hy,a2⟩:=H7.out.st.pick (j/4) (by rw [HS.out];omega)
     have a3:=qQg O7.out j (qZ4 _ j (by rw [qXt];exact hlt))
     have a4:=qQz O7.out j
     obtain⟨z,hz,e1⟩:=sum_ex x y
     obtain⟨q,hq,e2⟩:=byte_ex z (8*(j % 4)) (by omega)
     have hD:decide ((j:Int)<64)=true:=by simp;omega
     go_wp2_with fail
     have b0:(j:Int)<64:=by omega
     have b1:(0:Int)≤(j:Int)/4:=by omega
     have b2:(j:Int)/4<16:=by omega
     have b3:(0:Int)≤8*((j:Int) % 4):=by omega
     have e4:((j:Int)/4).toNat=j/4:=by omega
     have e5:(j:Int).tmod 4=(j:Int) % 4:=Int.tmod_eq_emod_of_nonneg (by omega)
     have e6:IntKind.i64.wrap ((j:Int) % 4)=(j:Int) % 4:=IntWalk.i64_in _ (by omega)
     have e7:IntKind.i64.wrap (8*((j:Int) % 4))=8*((j:Int) % 4):=IntWalk.i64_in _ (by omega)
     have e8:(8*((j:Int) % 4)).toNat=8*(j % 4):=by omega
     go_still_tail 14,(by kernel_rfl)
     clear e1 e2 e4 e5 e6 e7 e8
     change wpList _ _ _ _ _ wr.drew
     go_wp2_with fail
     go_roundw
     case rel=>
      refine⟨j+1,by omega,by go_num,?_⟩
      have G:wr.grownBy ((wr.setCell ⟨O,j,none⟩ (.int .u8 (q.toNat:Int))).drew) (some O):=qZS (qQF (World.grownBy.refl _ _) _ _)
      refine⟨H7.out.grown G (by have:=HM.out;have:=HO.out;omega),StOK.refl (qQd G (by have:=HO.out;simp;omega) S7.out.1),?_⟩
      show(wr.setCell ⟨O,j,none⟩ (.int .u8 (q.toNat:Int))).heap[O]?=_
      rw[heap_setCell_same _ _ _ _ _ _ O7.out,qYX,outK,byteOf,←hx.out,←hy.out,←hz.out,←hq.out]
     case measure=>simp [intOf];omega
    ·have hj64:Hid (j=64):=show j=64 by omega
     have hD:decide ((j:Int)<64)=false:=by simp;omega
     have Z8:=Lh (show(Tryz.prog.info? 179).map (·.size)=some (W8 (outK v s j)).size by rw [qQw,qXt];kernel_rfl)
     have Z9:=Lh (show(W8 (kQc 64 0)).size=(W8 (outK v s j)).size by rw [qQw,qQw,qXt];rfl)
     clear hlt hj
     go_wp2_with (first
      | (refine wpList_load_row rfl 179 (.tmp 9) rfl O rfl 179 (W8 (outK v s j)) (0,0) _ O7.out Tryz.underlying179 rfl Z8.out ?_)
      | (refine qQf rfl rfl 179 (.tmp 6) (.tmp 44) rfl (w.heap.size+1+1) (W8 (outK v s j)) rfl rfl 179 _ H7.out.bz Z8.out Z9.out (qZg _) ?_;intro w8 hz8 hg8 _))
     refine bodyPost_ret (results_cell_row rfl _ _ (w.heap.size+1+1) 179 (W8 (outK v s j)) (0,0) _ rfl hz8 Tryz.underlying179 rfl Z8.out) rfl ⟨?_,?_⟩
     ·rw [qXK,EV.out,ES.out,hj64.out]
     ·exact H7.out.bel.trans (qQi hg8 (Nat.le_of_lt (qQe H7.out.bk)) (by rintro g ⟨⟩;omega))
end Go.Proofs.YtlocplkjokoknaaGreat
namespace Go.Proofs.YtlocplkjokoknaaGreat
open Go.RowKit
attribute [local go_sem ↓] Go.wp_at_zero Go.wp_at_succ
def qJh (k n:List UInt8) (count:UInt32) (i:Nat):UInt8:=(qXK k n (count+UInt32.ofNat (i/64))).getD (i % 64) 0
def qQY (k n:List UInt8) (count:UInt32) (bs:List UInt8):List UInt8:=(List.range bs.length).map fun i=>bs.getD i 0 ^^^ qJh k n count i
theorem qQX (k n:List UInt8) (count:UInt32) (bs:List UInt8):(qQY k n count bs).length=bs.length:=by simp [qQY]
theorem qJa (k n:List UInt8) (count:UInt32) (bs:List UInt8) (i:Nat) (hi:i<bs.length):(qQY k n count bs)[i]?=some (bs.getD i 0 ^^^ qJh k n count i):=by simp [qQY,hi]
theorem qKe (k n:List UInt8) (count:UInt32) (bs:List UInt8) (i:Nat) (hi:i<bs.length) :
  (qQY k n count bs).take (i+1)=(qQY k n count bs).take i++[bs.getD i 0 ^^^ qJh k n count i]:=by
 have h:i<(qQY k n count bs).length:=by rw [qQX];exact hi
 rw[List.take_add_one,qJa _ _ _ _ _ hi]
 rfl
theorem qV9 (k n:List UInt8) (count:UInt32) (bs:List UInt8) (i:Nat) (hi:i≤bs.length):((qQY k n count bs).take i).length=i:=by
 rw[kQp,qQX];omega
theorem xor_ex (a b:UInt8):∃z:UInt8,Hid (z=a ^^^ b)∧bits .xor .u8 (a.toNat:Int) (b.toNat:Int)=(z.toNat:Int):=⟨_,rfl,u8_xor' a b⟩
theorem min_ex (r:Nat) (h0:0<r):∃m:Nat,(if (64:Int)<(r:Int)then(64:Int)else(r:Int))=(m:Int)∧m≤r∧m≤64∧0<m∧(m=r∨m=64):=by
 by_cases h:64<r
 ·exact⟨64,by rw [if_pos (by omega)];rfl,by omega,by omega,by omega,.inr rfl⟩
 ·exact⟨r,by rw [if_neg (by omega)],by omega,by omega,by omega,.inl rfl⟩
theorem count_ex (c:UInt32):∃z:UInt32,Hid (z=c+1)∧((c.toNat:Int)+1) % 4294967296=(z.toNat:Int):=⟨_,rfl,by rw [UInt32.toNat_add];simp⟩
structure StrW (w:World) (k n:List UInt8) (W:World):Prop where
 bk:W.heap[w.heap.size]?=some (.cells (W8 k) 38 (0,0))
 bn:W.heap[w.heap.size+1]?=some (.cells (W8 n) 128 (0,0))
 bel:Below w.heap.size w W
theorem StrW.size {w W:World} {k n:List UInt8} (h:StrW w k n W):w.heap.size+1<W.heap.size:=qQe h.bn
theorem StrW.grown {w W W':World} {k n:List UInt8} {r:Option Nat} (h:StrW w k n W) (hg:W.grownBy W' r) (hr:∀g,r=some g→w.heap.size+1<g):StrW w k n W' where
 bk:=qQd hg (fun e=>by have:=hr _ e.symm;omega) h.bk
 bn:=qQd hg (fun e=>by have:=hr _ e.symm;omega) h.bn
 bel:=h.bel.trans (qQi hg (Nat.le_of_lt (qQe h.bk)) (fun g e=>by have:=hr g e;omega))
theorem StrW.below {w W W':World} {k n:List UInt8} (h:StrW w k n W) (hb:Below W.heap.size W W'):StrW w k n W':=h.grown (qQJ hb) (fun g e=>by cases e)
theorem str_start (w:World) (k n:List UInt8):StrW w k n ((w.alloc (.cells (W8 k) 38)).alloc (.cells (W8 n) 128)) where
 bk:=qQM _ _ _ (by simp) (qQk _ _ _ rfl)
 bn:=qQk _ _ _ (by simp)
 bel:=((Below.refl _ _).alloc (kQh _) _).alloc (by simp) _
theorem stream_go (k n:List UInt8) (hk:k.length=32) (hn:n.length=12) (count:UInt32) (w:World) (A:Option Addr) (c:Nat) (bs:List UInt8) (hR:RdB w A bs) (hlc:bs.length≤c) (hb:bs.length≤70368744177664) :
  Calls Tryz.prog 81 #[.agg (W8 k),.agg (W8 n),.int .u32 (count.toNat:Int),.slice A bs.length c] w fun e w'=>
   ∃v,e=.returned v∧OwnB w' w.heap.size v (qQY k n count bs)∧Below w.heap.size w w':=by
 have HK:=Lh hk
 have HN:=Lh hn
 have HR:=Lh hR
 have HC:=Lh hlc
 have HB:=Lh hb
 clear hk hn hR hlc
 have TB:=Lh (show qXA Tryz.prog from⟨Tryz.underlying22,by kernel_rfl⟩)
 obtain⟨i0,hi,hz0,hz1,hz2⟩:=info_parts (show(Tryz.prog.info? 5).map (fun i=>(i.zero,i.size,i.bytes))=some (some (.int .u8 0),1,1) by kernel_rfl)
 have ZK:=Lh (show(Tryz.prog.info? 38).map (·.size)=some (W8 k).size by rw [qQw,HK.out];kernel_rfl)
 have ZN:=Lh (show(Tryz.prog.info? 128).map (·.size)=some (W8 n).size by rw [qQw,HN.out];kernel_rfl)
 have ZB:=fun cq=>Lh (show(Tryz.prog.info? 179).map (·.size)=some (W8 (qXK k n cq)).size by rw [qQw,qZ0];kernel_rfl)
 have HZB:=Lh ZB
 clear ZB
 have I0:=Lh hi
 have I1:=Lh hz0
 have I2:=Lh hz1
 have I3:=Lh hz2
 clear hi hz0 hz1 hz2
 go_enter Tryz.func81,Tryz.ntmps81
 go_upto_region 1 with fail
 refine qZ1 (fun W=>StrW w k n W) (str_start w k n) ?_
 intro w0 H0'
 have H0:=Lh H0'
 clear H0'
 go_wp2_with (refine wpList_make_own w0 rfl (.const (.int .i64 0)) (.tmp 14) 22 rfl (w.heap.size+1+1) 5 i0 (.int .u8 0) 1 Tryz.underlying22 I0.out I1.out I2.out .i64 .i64 _ bs.length rfl rfl rfl (by rw [I3.out];omega) (by unfold maxLen;omega) (by have:=H0.out.size;omega) ?_;intro w1 HO1' HG1')
 refine qZ1 (fun W=>StrW w k n W∧OwnB W (w.heap.size+1+1) (.slice (some ⟨w0.heap.size,0,none⟩) 0 bs.length) []) ⟨H0.out.grown HG1' (by intro g e;cases e),HO1'⟩ ?_
 generalize (Value.slice (some ⟨w0.heap.size,0,none⟩) 0 bs.length)=v0
 rintro w2 ⟨H2',O2'⟩
 have H2:=Lh H2'
 have O2:=Lh O2'
 clear HO1' HG1' H2' O2' w1 H0 w0 hb
 go_loopw [2,3,9] (fun x b v wr=>∃q p r A' c',p+r=bs.length∧(r=0∨p=64*q)∧r≤c'∧x=.int .u32 ((count+UInt32.ofNat q).toNat:Int)∧b=.slice A' r c'∧RdB w A' (bs.drop p)∧
   OwnB wr (w.heap.size+1+1) v ((qQY k n count bs).take p)∧StrW w k n wr) (fun _ b _ _=>lenOf b)
 case atStart=>exact⟨0,0,bs.length,A,c,by omega,.inr rfl,HC.out,by simp,rfl,HR.out,O2.out,H2.out⟩
 case round=>
  obtain⟨q,p,r,A1,c1,hpr,hrq,hrc,rfl,rfl,hR1,hO1,hS1⟩:=hrel
  have HPR:=Lh hpr
  have HRQ:=Lh hrq
  have HRC:=Lh hrc
  have R1:=Lh hR1
  have L1:=Lh (show bs.drop p≠[]→∀a,A1=some a→a.block<w.heap.size from fun hne=>hR1.lt hne)
  have O1:=Lh hO1
  have S1:=Lh hS1
  clear hpr hrq hrc hR1 hO1 hS1 H2 O2 w2
  have HX:=Lh (show(count+UInt32.ofNat q)=(count+UInt32.ofNat q)from rfl)
  generalize hcq:count+UInt32.ofNat q=cq
  have HCQ:=Lh hcq
  clear hcq HX
  by_cases h0:0<r
  ·have hD:decide ((0:Int)<(r:Int))=true:=by simp;omega
   have hp:Hid (p=64*q):=HRQ.out.resolve_left (by omega)
   go_upto_region 3 with fail
   go_wp2_with (first
    | (refine wpList_load_row rfl 38 (.tmp 4) rfl w.heap.size rfl 38 (W8 k) (0,0) _ S1.out.bk Tryz.underlying38 rfl ZK.out ?_)
    | (refine wpList_load_row rfl 128 (.tmp 5) rfl (w.heap.size+1) rfl 128 (W8 n) (0,0) _ S1.out.bn Tryz.underlying128 rfl ZN.out ?_))
   refine(block_any k n HK.out HN.out cq _).mono ?_
   rintro e w3 ⟨rfl,hb3⟩
   obtain⟨S3',O3'⟩:StrW w k n w3∧OwnB w3 (w.heap.size+1+1) u9 ((qQY k n count bs).take p):=⟨S1.out.below hb3,O1.out.below hb3⟩
   have S3:=Lh S3'
   have O3:=Lh O3'
   clear S3' O3' S1 O1 hb3 wr
   go_upto_region 4 with (refine qQp rfl rfl 179 (.tmp 10) (.tmp 22) rfl (W8 (qXK k n cq)) rfl rfl (HZB.out cq).out ?c1 (qZg _) ?_)
   case c1=>rw [qQw,qZ0];rfl
   obtain⟨M,hM⟩:∃M,M=w3.heap.size:=⟨_,rfl⟩
   refine qZ1 (fun W=>StrW w k n W∧OwnB W (w.heap.size+1+1) u9 ((qQY k n count bs).take p)∧W.heap[M]?=some (.cells (W8 (qXK k n cq)) 179 (0,0))∧u9.ownBlock≠some M∧w.heap.size+1<M)
    ⟨S3.out.below ((Below.refl _ _).alloc (kQh _) _),O3.out.alloc _,qQk _ _ _ hM,fun e=>by have:=O3.out.lt _ e;omega,by rw [hM];exact S3.out.size⟩ ?_
   rw[←hM]
   clear hM
   rintro w4 ⟨S4',O4',M4',N4',L4'⟩
   have S4:=Lh S4'
   have O4:=Lh O4'
   have M4:=Lh M4'
   have N4:=Lh N4'
   have L4:=Lh L4'
   clear S4' O4' M4' N4' L4' S3 O3 w3
   obtain⟨m,hm,hmr,hm64,hm0,hmc⟩:=min_ex r h0
   have HMR:=Lh hmr
   have HMC:=Lh hmc
   clear hmr hmc
   go_upto_region 5 with fail
   clear hm
   obtain⟨wo,rfl⟩:∃wo:World,wo=w4:=⟨_,rfl⟩
   go_wp2_with fail
   go_loopw [9,27] (fun v i wr=>∃j:Nat,j≤m∧i=.int .i64 (j:Int)∧OwnB wr (w.heap.size+1+1) v ((qQY k n count bs).take (p+j))∧StrW w k n wr∧
     wr.heap[M]?=some (.cells (W8 (qXK k n cq)) 179 (0,0))∧v.ownBlock≠some M) (fun _ i _=>m-(intOf i).toNat)
   case atStart=>exact⟨0,by omega,rfl,O4.out,S4.out,M4.out,N4.out⟩
   case round=>
    obtain⟨j,hj,rfl,hO5,hS5,hM5,hN5⟩:=hrel
    have HJ:=Lh hj
    have O5:=Lh hO5
    have S5:=Lh hS5
    have M5:=Lh hM5
    have N5:=Lh hN5
    clear hj hO5 hS5 hM5 hN5 S4 O4 M4 N4 wo
    by_cases hlt:j<m
    ·have hD2:decide ((j:Int)<(m:Int))=true:=by simp;omega
     obtain⟨b,o,rfl,x,hx,a1⟩:=(R1.out.keep S5.out.bel).get j (by have:=HPR.out;have:=HMR.out;simp;omega)
     have a2:=qQg M5.out j (qZ4 _ j (by rw [qZ0];omega))
     obtain⟨y,hy⟩:∃y,y=(qXK k n cq).getD j 0:=⟨_,rfl⟩
     rw[←hy]at a2
     have HY:=Lh hy
     clear hy
     obtain⟨z,hz,e1⟩:=xor_ex x y
     have b1:(j:Int)<(r:Int):=by have:=HMR.out;omega
     have b2:(j:Int)<64:=by omega
     go_wp2_with fail
     have ON:Hid (OwnB (wr.alloc (.cells #[.int .u8 (z.toNat:Int)] 5)).drew (w.heap.size+1+1) u9 ((qQY k n count bs).take (p+j))):=(O5.out.alloc _).drew
     have A1:Hid ((wr.alloc (.cells #[.int .u8 (z.toNat:Int)] 5)).drew.cell? ⟨b,o+j,none⟩=some (.int .u8 (x.toNat:Int))):=qVT a1 _
     have A2:Hid ((wr.alloc (.cells #[.int .u8 (z.toNat:Int)] 5)).drew.cell? ⟨M,j,none⟩=some (.int .u8 (y.toNat:Int))):=qVT a2 _
     have A3:Hid (RdB (wr.alloc (.cells #[.int .u8 (z.toNat:Int)] 5)).drew (some ⟨wr.heap.size,0,none⟩) [z]):=RdB.one (qQg (fr:=(0,0)) (qQk wr _ _ rfl) 0 rfl)
     have A4:Hid (w.heap.size+1+1≤(wr.alloc (.cells #[.int .u8 (z.toNat:Int)] 5)).drew.heap.size):=show _≤(wr.alloc (.cells #[.int .u8 (z.toNat:Int)] 5)).heap.size by have:=S5.out.size;rw [qQD];omega
     have A5:Hid (((qQY k n count bs).take (p+j)).length+1≤140737488355328):=show _≤_ by have:=HPR.out;have:=HMR.out;have:=HB.out;rw [qV9 _ _ _ _ _ (by omega)];omega
     have A6:Hid (∀g,u9.ownBlock=some g→(⟨b,o+j,none⟩:Addr).block≠g):=fun g e=>by have:=O5.out.lt g e;have:=L1.out (by intro hn;have h1:=congrArg List.length hn;rw [kQv,List.length_nil]at h1;have:=HPR.out;have:=HMR.out;omega) _ rfl;simp at this ⊢;omega
     have A7:Hid (∀g,u9.ownBlock=some g→(⟨M,j,none⟩:Addr).block≠g):=fun g e h=>N5.out (by rw [e,←h])
     go_region_held3 (fun w'=>w'.cell? ⟨b,o+j,none⟩=some (.int .u8 (x.toNat:Int))∧w'.cell? ⟨M,j,none⟩=some (.int .u8 (y.toNat:Int))) (first|go_keep|exact⟨qVS hg1 A1.out A6.out,qVS hg1 A2.out A7.out⟩) ((refine app_step (by rfl) TB.out (.tmp 30) (.tmp 39) (by rfl) (w.heap.size+1+1) u9 ((qQY k n count bs).take (p+j)) [z] (some ⟨wr.heap.size,0,none⟩) 1 1 (by rfl) (by rfl) (by rfl) ON.out A3.out A4.out A5.out ?_;intro v1 w1 ho1 hg1 hat1))
     have G:Hid (wr.grownBy w1 u9.ownBlock):=World.grownBy.trans (World.grownBy_alloc wr _ _) ⟨hg1.os,hg1.tape,hg1.output,hg1.size,hg1.block⟩
     have HO1:=Lh ho1
     have HAT:=Lh hat1
     clear ho1 hat1 hg1 a1 a2 e1 ON A1 A2 A3 A4 A5 A6 A7
     go_wp2_with fail
     go_roundw
     case rel=>
      refine⟨j+1,by omega,by go_num,?_,S5.out.grown G.out (fun g e=>by have:=O5.out.lt g e;omega),qQd G.out (fun e=>N5.out e.symm) M5.out,fun e=>?_⟩
      ·have h1:=HPR.out
       have h2:=HMR.out
       have hz':bs.getD (p+j) 0 ^^^ qJh k n count (p+j)=z:=by
        rw[hz.out,hx.out,HY.out,qJh,hp.out,show(64*q+j)/64=q by omega,show(64*q+j) % 64=j by omega,HCQ.out]
        simp [kQa,List.getElem?_drop]
       rw[←Nat.add_assoc,qKe _ _ _ _ _ (by omega),hz']
       exact HO1.out
      ·rcases HAT.out with h|h
       ·exact N5.out (h.symm.trans e)
       ·rw [e]at h
        injection h with h
        have h':M=wr.heap.size+1:=by rw [h];exact qQD _ _
        have:=qQe M5.out
        omega
     case measure=>simp [intOf];omega
    ·have hjm:Hid (j=m):=show j=m by have:=HJ.out;omega
     have hD2:decide ((j:Int)<(m:Int))=false:=by simp;omega
     obtain⟨A',hcut,hcutR,hcutB⟩:=qVR (P:=Tryz.prog) 22 5 Tryz.underlying22 I0.out I2.out A1 r c1 m HMR.out
     have HCR:=Lh hcutR
     have HCB:=Lh hcutB
     obtain⟨cq',hcq',e1⟩:=count_ex cq
     clear hcutR hcutB
     go_wp2_with fail
     go_roundw
     case rel=>
      have h1:=HPR.out
      have h2:=HMR.out
      have h3:=HMC.out
      have h4:=HRC.out
      have h5:=hp.out
      refine⟨q+1,p+m,r-m,A',c1-m,by omega,by omega,by omega,?_,rfl,?_,?_,S5.out⟩
      ·rw [e1,hcq'.out,←HCQ.out,UInt32.add_assoc]
       congr 3
       simp
      ·have:=HCR.out w (bs.drop p) (by rw [kQv];omega) h4 R1.out
       rwa [List.drop_drop]at this
      ·have:=O5.out
       rwa [hjm.out]at this
     case measure=>simp [lenOf];omega
  ·have hr0:Hid (r=0):=show r=0 by omega
   have hD:decide ((0:Int)<(r:Int))=false:=by simp;omega
   go_wp2_with fail
   go_ret
   refine⟨_,rfl,?_,S1.out.bel⟩
   have hp:p=bs.length:=by have:=HPR.out;have:=hr0.out;omega
   have:=O1.out
   rw[hp,kQn (by rw [qQX];omega)]at this
   exact this.mono (by omega)
end Go.Proofs.YtlocplkjokoknaaGreat
namespace Go.Proofs.YtlocplkjokoknaaGreat
open Go.RowKit
def WN (l:List Nat):Array Value:=(l.map fun x:Nat=>Value.int .u64 (x:Int)).toArray
theorem qZs (l:List Nat):(WN l).size=l.length:=by simp [WN]
theorem qXe (l:List Nat) (i:Nat) (h:i<l.length):(WN l)[i]?=some (.int .u64 ((l.getD i 0:Nat):Int)):=by simp [WN,h]
theorem WN_set (l:List Nat) (i:Nat) (x:Nat):(WN l).setIfInBounds i (.int .u64 (x:Int))=WN (l.set i x):=by simp [WN,List.map_set]
theorem qVC (l:List Nat):(WN l).all (·.oneCell')=true:=all_oneCell_toArray (by intro v hv;simp only [List.mem_map]at hv;obtain⟨q,_,rfl⟩:=hv;rfl)
def valN (l:List Nat):Nat:=l.getD 0 0+67108864*(l.getD 1 0+67108864*(l.getD 2 0+67108864*(l.getD 3 0+67108864*l.getD 4 0)))
def PN:Nat:=1361129467683753853853498429727072845819
theorem list5:∀(v:List Nat),v.length=5→∃a b c d e,v=[a,b,c,d,e]
 | [a,b,c,d,e],_=>⟨a,b,c,d,e,rfl⟩
def Bd (B:Nat) (l:List Nat):Prop:=∀j,l.getD j 0≤B
theorem Bd.mono {B B':Nat} {l:List Nat} (h:Bd B l) (hb:B≤B'):Bd B' l:=fun j=>kQk (h j) hb
theorem qKw (l:List Nat) (i j x:Nat):(l.set i x).getD j 0=if i=j∧j<l.length then x else l.getD j 0:=by
 rw[kQa,List.getElem?_set,kQa]
 by_cases h:i=j
 ·subst h
  by_cases hl:i<l.length
  ·simp [hl]
  ·simp [hl]
 ·simp [h]
theorem Bd.set {B:Nat} {l:List Nat} (h:Bd B l) {i x:Nat} (hx:x≤B):Bd B (l.set i x):=by
 intro j
 rw[qKw]
 split
 ·exact hx
 ·exact h j
def addK (n m:List Nat):Nat→List Nat
 | 0=>n
 | i+1=>(addK n m i).set i ((addK n m i).getD i 0+m.getD i 0)
theorem qJm (n m:List Nat) (i:Nat):(addK n m i).length=n.length:=by
 induction i with
 | zero=>rfl
 | succ i ih=>simp [addK,ih]
theorem qYW (n m:List Nat):∀(i j:Nat),i≤j→(addK n m i).getD j 0=n.getD j 0
 | 0,j,_=>rfl
 | i+1,j,h=>by rw [addK,qKw,if_neg (by omega),qYW n m i j (by omega)]
theorem addK_all (n m:List Nat) (hn:n.length=5) (hm:m.length=5):valN (addK n m 5)=valN n+valN m∧∀B C,Bd B n→Bd C m→Bd (B+C) (addK n m 5):=by
 obtain⟨a,b,c,d,e,rfl⟩:=list5 n hn
 obtain⟨a',b',c',d',e',rfl⟩:=list5 m hm
 have h:addK [a,b,c,d,e] [a',b',c',d',e'] 5=[a+a',b+b',c+c',d+d',e+e']:=rfl
 rw[h]
 refine⟨by simp [valN];omega,fun B C hB hC j=>?_⟩
 have h0:=hB 0
 have h1:=hB 1
 have h2:=hB 2
 have h3:=hB 3
 have h4:=hB 4
 have k0:=hC 0
 have k1:=hC 1
 have k2:=hC 2
 have k3:=hC 3
 have k4:=hC 4
 simp at h0 h1 h2 h3 h4 k0 k1 k2 k3 k4
 rcases j with _|_|_|_|_|j<;>simp<;>omega
def qVA (n:List Nat):Nat→List Nat
 | 0=>n
 | i+1=>
  let m:=qVA n i
  let m1:=m.set i (m.getD i 0 % 67108864)
  if i+1<5 then m1.set (i+1) (m1.getD (i+1) 0+m.getD i 0/67108864)else m1.set 0 (m1.getD 0 0+5*(m.getD i 0/67108864))
theorem qJN (n:List Nat) (i:Nat):(qVA n i).length=n.length:=by
 induction i with
 | zero=>rfl
 | succ i ih=>unfold qVA;dsimp only;split<;>simp [ih]
def qZX (n:List Nat):List Nat:=qVA n 5
theorem qZe (n:List Nat):(qZX n).length=n.length:=qJN n 5
theorem carryK_bd (n:List Nat) (hn:n.length=5) (h:Bd 4611686018427387904 n):∀i,i≤5→Bd 9223372036854775808 (qVA n i):=by
 obtain⟨a,b,c,d,e,rfl⟩:=list5 n hn
 have h0:=h 0
 have h1:=h 1
 have h2:=h 2
 have h3:=h 3
 have h4:=h 4
 simp at h0 h1 h2 h3 h4
 intro i hi j
 rcases i with _|_|_|_|_|_|i
 ·exact kQk (h j) (by omega)
 ·show([a % 67108864,b+a/67108864,c,d,e]:List Nat).getD j 0≤_
  rcases j with _|_|_|_|_|j<;>simp<;>omega
 ·show([a % 67108864,(b+a/67108864) % 67108864,c+(b+a/67108864)/67108864,d,e]:List Nat).getD j 0≤_
  rcases j with _|_|_|_|_|j<;>simp<;>omega
 ·show([a % 67108864,(b+a/67108864) % 67108864,(c+(b+a/67108864)/67108864) % 67108864,d+(c+(b+a/67108864)/67108864)/67108864,e]:List Nat).getD j 0≤_
  rcases j with _|_|_|_|_|j<;>simp<;>omega
 ·show([a % 67108864,(b+a/67108864) % 67108864,(c+(b+a/67108864)/67108864) % 67108864,(d+(c+(b+a/67108864)/67108864)/67108864) % 67108864,e+(d+(c+(b+a/67108864)/67108864)/67108864)/67108864]:List Nat).getD j 0≤_
  rcases j with _|_|_|_|_|j<;>simp<;>omega
 ·show([a % 67108864+5*((e+(d+(c+(b+a/67108864)/67108864)/67108864)/67108864)/67108864),(b+a/67108864) % 67108864,(c+(b+a/67108864)/67108864) % 67108864,(d+(c+(b+a/67108864)/67108864)/67108864) % 67108864,(e+(d+(c+(b+a/67108864)/67108864)/67108864)/67108864) % 67108864]:List Nat).getD j 0≤_
  rcases j with _|_|_|_|_|j<;>simp<;>omega
 ·omega
theorem qWh (n:List Nat) (hn:n.length=5):∃a0 a1 a2 a3 a4 c0 c1 c2 c3 c4 b0 b1 b2 b3 b4,n=[a0,a1,a2,a3,a4]∧qZX n=[b0+5*c4,b1,b2,b3,b4]∧a0=b0+67108864*c0∧a1+c0=b1+67108864*c1∧a2+c1=b2+67108864*c2∧a3+c2=b3+67108864*c3∧a4+c3=b4+67108864*c4∧
  b0<67108864∧b1<67108864∧b2<67108864∧b3<67108864∧b4<67108864:=by
 obtain⟨a,b,c,d,e,rfl⟩:=list5 n hn
 refine⟨a,b,c,d,e,a/67108864,(b+a/67108864)/67108864,(c+(b+a/67108864)/67108864)/67108864,(d+(c+(b+a/67108864)/67108864)/67108864)/67108864,(e+(d+(c+(b+a/67108864)/67108864)/67108864)/67108864)/67108864,a % 67108864,(b+a/67108864) % 67108864,(c+(b+a/67108864)/67108864) % 67108864,(d+(c+(b+a/67108864)/67108864)/67108864) % 67108864,(e+(d+(c+(b+a/67108864)/67108864)/67108864)/67108864) % 67108864,rfl,rfl,?_⟩
 refine⟨?_,?_,?_,?_,?_,?_,?_,?_,?_,?_⟩<;>omega
theorem carryL_val (n:List Nat) (hn:n.length=5):∃c,valN n=valN (qZX n)+c*PN:=by
 obtain⟨a0,a1,a2,a3,a4,c0,c1,c2,c3,c4,b0,b1,b2,b3,b4,rfl,e,h0,h1,h2,h3,h4,_⟩:=qWh n hn
 refine⟨c4,?_⟩
 rw[e]
 simp only [valN,PN,List.getD_cons_zero,List.getD_cons_succ]
 omega
theorem qVU (n:List Nat) (hn:n.length=5):valN (qZX n) % PN=valN n % PN:=by
 obtain⟨c,h⟩:=carryL_val n hn
 rw[h,Nat.add_mul_mod_self_right]
theorem qYc (n:List Nat) (hn:n.length=5) (h:Bd 4611686018427387904 n):∃b0 b1 b2 b3 b4 c4,qZX n=[b0+5*c4,b1,b2,b3,b4]∧b0<67108864∧b1<67108864∧b2<67108864∧b3<67108864∧b4<67108864∧c4≤68719480000:=by
 obtain⟨a0,a1,a2,a3,a4,c0,c1,c2,c3,c4,b0,b1,b2,b3,b4,rfl,e,h0,h1,h2,h3,h4,g0,g1,g2,g3,g4⟩:=qWh n hn
 have k0:=h 0
 have k1:=h 1
 have k2:=h 2
 have k3:=h 3
 have k4:=h 4
 simp at k0 k1 k2 k3 k4
 have d0:c0≤68719476736:=by clear e h1 h2 h3 h4;omega
 have d1:c1≤68719480000:=by clear e h0 h2 h3 h4;omega
 have d2:c2≤68719480000:=by clear e h0 h1 h3 h4;omega
 have d3:c3≤68719480000:=by clear e h0 h1 h2 h4;omega
 exact⟨b0,b1,b2,b3,b4,c4,e,g0,g1,g2,g3,g4,by clear e h0 h1 h2 h3;omega⟩
theorem carryL_twice (n:List Nat) (hn:n.length=5) (h:Bd 4611686018427387904 n):∃b0 b1 b2 b3 b4,qZX (qZX n)=[b0,b1,b2,b3,b4]∧b0≤67108868∧b1<67108864∧b2<67108864∧b3<67108864∧b4<67108864:=by
 obtain⟨x0,x1,x2,x3,x4,c,e,h0,h1,h2,h3,h4,hc⟩:=qYc n hn h
 obtain⟨a0,a1,a2,a3,a4,c0,c1,c2,c3,c4,b0,b1,b2,b3,b4,e1,e2,k0,k1,k2,k3,k4,g0,g1,g2,g3,g4⟩:=qWh (qZX n) (by rw [qZe];exact hn)
 rw[e]at e1
 injection e1 with q0 e1
 injection e1 with q1 e1
 injection e1 with q2 e1
 injection e1 with q3 e1
 injection e1 with q4 e1
 have d0:c0≤5130:=by clear e e2 k1 k2 k3 k4;omega
 have d1:c1≤1:=by clear e e2 k0 k2 k3 k4;omega
 have d2:c2≤1:=by clear e e2 k0 k1 k3 k4;omega
 have d3:c3≤1:=by clear e e2 k0 k1 k2 k4;omega
 have d4:c4≤1:=by clear e e2 k0 k1 k2 k3;omega
 refine⟨_,_,_,_,_,e2,?_,g1,g2,g3,g4⟩
 clear e e2 k0 k1 k2 k3 k4
 omega
theorem qKm (n:List Nat) (hn:n.length=5) (h:Bd 67108868 n):∃b0 b1 b2 b3 b4,qZX (qZX n)=[b0,b1,b2,b3,b4]∧b0<67108864∧b1<67108864∧b2<67108864∧b3<67108864∧b4<67108864:=by
 obtain⟨y0,y1,y2,y3,y4,d0,d1,d2,d3,d4,x0,x1,x2,x3,x4,e0,e,j0,j1,j2,j3,j4,h0,h1,h2,h3,h4⟩:=qWh n hn
 obtain⟨a0,a1,a2,a3,a4,c0,c1,c2,c3,c4,b0,b1,b2,b3,b4,e1,e2,k0,k1,k2,k3,k4,g0,g1,g2,g3,g4⟩:=qWh (qZX n) (by rw [qZe];exact hn)
 rw[e]at e1
 injection e1 with q0 e1
 injection e1 with q1 e1
 injection e1 with q2 e1
 injection e1 with q3 e1
 injection e1 with q4 e1
 have m0:=h 0
 have m1:=h 1
 have m2:=h 2
 have m3:=h 3
 have m4:=h 4
 rw[e0]at m0 m1 m2 m3 m4
 simp at m0 m1 m2 m3 m4
 have p0:d0≤1:=by clear e e2 e0 j1 j2 j3 j4 k0 k1 k2 k3 k4;omega
 have p1:d1≤1:=by clear e e2 e0 j0 j2 j3 j4 k0 k1 k2 k3 k4;omega
 have p2:d2≤1:=by clear e e2 e0 j0 j1 j3 j4 k0 k1 k2 k3 k4;omega
 have p3:d3≤1:=by clear e e2 e0 j0 j1 j2 j4 k0 k1 k2 k3 k4;omega
 have p4:d4≤1:=by clear e e2 e0 j0 j1 j2 j3 k0 k1 k2 k3 k4;omega
 clear e e0 j0 j1 j2 j3 j4
 have r0:c0≤1:=by clear e2 k1 k2 k3 k4;omega
 have r1:c1≤c0:=by clear e2 k0 k2 k3 k4;omega
 have r2:c2≤c1:=by clear e2 k0 k1 k3 k4;omega
 have r3:c3≤c2:=by clear e2 k0 k1 k2 k4;omega
 have r4:c4≤c3:=by clear e2 k0 k1 k2 k3;omega
 refine⟨_,_,_,_,_,e2,?_,g1,g2,g3,g4⟩
 clear e2 k1 k2 k3 k4
 omega
def stepT (n r acc:List Nat) (i k:Nat):List Nat:=
 if i+k<5 then acc.set (i+k) (acc.getD (i+k) 0+n.getD i 0*r.getD k 0)else acc.set (i+k-5) (acc.getD (i+k-5) 0+5*n.getD i 0*r.getD k 0)
def rowT (n r acc:List Nat) (i:Nat):Nat→List Nat
 | 0=>acc
 | k+1=>stepT n r (rowT n r acc i k) i k
def qXR (n r:List Nat):Nat→List Nat
 | 0=>[0,0,0,0,0]
 | i+1=>rowT n r (qXR n r i) i 5
theorem stepT_length (n r acc:List Nat) (i k:Nat):(stepT n r acc i k).length=acc.length:=by unfold stepT;split<;>simp
theorem qKO (n r acc:List Nat) (i k:Nat):(rowT n r acc i k).length=acc.length:=by
 induction k with
 | zero=>rfl
 | succ k ih=>rw [rowT,stepT_length,ih]
theorem qXg (n r:List Nat) (i:Nat):(qXR n r i).length=5:=by
 induction i with
 | zero=>rfl
 | succ i ih=>rw [qXR,qKO,ih]
theorem prod_bd {n r:List Nat} (hn:Bd 268435456 n) (hr:Bd 67108864 r) (i k:Nat):5*n.getD i 0*r.getD k 0≤90071992547409920∧n.getD i 0*r.getD k 0≤90071992547409920:=by
 have h1:=Nat.mul_le_mul (hn i) (hr k)
 rw[Nat.mul_assoc]
 constructor<;>omega
theorem stepT_bd {n r acc:List Nat} (hn:Bd 268435456 n) (hr:Bd 67108864 r) {B:Nat} (h:Bd B acc) (i k:Nat):Bd (B+90071992547409920) (stepT n r acc i k):=by
 have hp:=prod_bd hn hr i k
 unfold stepT
 split
 ·exact Bd.set (h.mono (by omega)) (Nat.add_le_add (h _) hp.2)
 ·exact Bd.set (h.mono (by omega)) (Nat.add_le_add (h _) hp.1)
theorem rowT_bd {n r acc:List Nat} (hn:Bd 268435456 n) (hr:Bd 67108864 r) {B:Nat} (h:Bd B acc) (i k:Nat):Bd (B+k*90071992547409920) (rowT n r acc i k):=by
 induction k with
 | zero=>simpa [rowT]using h
 | succ k ih=>rw [rowT];exact(stepT_bd hn hr ih i k).mono (by omega)
theorem qKF {n r:List Nat} (hn:Bd 268435456 n) (hr:Bd 67108864 r) (i:Nat):Bd (i*450359962737049600) (qXR n r i):=by
 induction i with
 | zero=>intro j;rcases j with _|_|_|_|_|j<;>simp [qXR]
 | succ i ih=>rw [qXR];exact(rowT_bd hn hr ih i 5).mono (by omega)
def qVZ (n r:List Nat):List Nat:=qZX (qZX (qXR n r 5))
theorem idT (n0 n1 n2 n3 n4 r0 r1 r2 r3 r4:Nat) :
 (n0+67108864*(n1+67108864*(n2+67108864*(n3+67108864*n4))))*(r0+67108864*(r1+67108864*(r2+67108864*(r3+67108864*r4)))) =
 ((0+n0*r0+5*n1*r4+5*n2*r3+5*n3*r2+5*n4*r1)+67108864*((0+n0*r1+n1*r0+5*n2*r4+5*n3*r3+5*n4*r2)+67108864*((0+n0*r2+n1*r1+n2*r0+5*n3*r4+5*n4*r3)+67108864*((0+n0*r3+n1*r2+n2*r1+n3*r0+5*n4*r4)+67108864*(0+n0*r4+n1*r3+n2*r2+n3*r1+n4*r0)))))
 + ((n1*r4+n2*r3+n3*r2+n4*r1)+67108864*((n2*r4+n3*r3+n4*r2)+67108864*((n3*r4+n4*r3)+67108864*(n4*r4))))*1361129467683753853853498429727072845819:=by
 grind
theorem timesT_mod (n r:List Nat) (hn:n.length=5) (hr:r.length=5):valN (qXR n r 5) % PN=valN n*valN r % PN:=by
 obtain⟨n0,n1,n2,n3,n4,rfl⟩:=list5 n hn
 obtain⟨r0,r1,r2,r3,r4,rfl⟩:=list5 r hr
 have h:qXR [n0,n1,n2,n3,n4] [r0,r1,r2,r3,r4] 5=[0+n0*r0+5*n1*r4+5*n2*r3+5*n3*r2+5*n4*r1,0+n0*r1+n1*r0+5*n2*r4+5*n3*r3+5*n4*r2,0+n0*r2+n1*r1+n2*r0+5*n3*r4+5*n4*r3,0+n0*r3+n1*r2+n2*r1+n3*r0+5*n4*r4,0+n0*r4+n1*r3+n2*r2+n3*r1+n4*r0]:=by kernel_rfl
 rw[h]
 simp only [valN,List.getD_cons_zero,List.getD_cons_succ]
 rw[idT,show PN=1361129467683753853853498429727072845819 from rfl,Nat.add_mul_mod_self_right]
theorem qY3 (n r:List Nat):(qVZ n r).length=5:=by rw [qVZ,qZe,qZe,qXg]
theorem timesL_all (n r:List Nat) (hn:n.length=5) (hr:r.length=5) (bn:Bd 268435456 n) (br:Bd 67108864 r):valN (qVZ n r) % PN=valN n*valN r % PN∧Bd 67108868 (qVZ n r):=by
 refine⟨by rw [qVZ,qVU _ (by rw [qZe,qXg]),qVU _ (qXg _ _ _),timesT_mod n r hn hr],?_⟩
 have hb:Bd 4611686018427387904 (qXR n r 5):=(qKF bn br 5).mono (by omega)
 obtain⟨b0,b1,b2,b3,b4,e,h0,h1,h2,h3,h4⟩:=carryL_twice _ (qXg n r 5) hb
 rw[qVZ,e]
 intro j
 rcases j with _|_|_|_|_|j<;>simp<;>omega
end Go.Proofs.YtlocplkjokoknaaGreat
namespace Go.Proofs.YtlocplkjokoknaaGreat
open Go.RowKit
attribute [local go_sem ↓] Go.wp_at_zero Go.wp_at_succ
theorem wrap_u64 (x:Nat) (h:x<18446744073709551616):IntKind.u64.wrap (x:Int)=(x:Int):=by rw [IntKind.wrap_u64];omega
theorem wrap_u64_add (x y:Nat) (h:x+y<18446744073709551616):IntKind.u64.wrap ((x:Int)+(y:Int))=((x+y:Nat):Int):=by rw [IntKind.wrap_u64];omega
theorem wrap_u64_mul (x y:Nat) (h:x*y<18446744073709551616):IntKind.u64.wrap ((x:Int)*(y:Int))=((x*y:Nat):Int):=by
 rw[←Int.natCast_mul];exact wrap_u64 _ h
theorem qKA (x:Int) (h : -9223372036854775808≤x∧x≤9223372036854775807):IntKind.i64.wrap x=x:=by rw [IntKind.wrap_i64];omega
theorem mask26 (x:Nat) (h:x<18446744073709551616):bits .and .u64 (x:Int) 67108863=(x:Int) % 67108864:=by
 have:=u64_and_nat x 67108863 h (by omega)
 rw[show((67108863:Nat):Int)=67108863 from rfl]at this
 rw[this,show(67108863:Nat)=2 ^ 26-1 from rfl,Nat.and_two_pow_sub_one_eq_mod]
 omega
def Z5:List Nat:=[0,0,0,0,0]
theorem zero5:WN Z5=#[.int .u64 0,.int .u64 0,.int .u64 0,.int .u64 0,.int .u64 0]:=rfl
structure NW (w:World) (g:Nat) (l:List Nat) (W:World):Prop where
 b:W.heap[g]?=some (.cells (WN l) 222 (0,0))
 hg:w.heap.size≤g
 bel:Below w.heap.size w W
theorem NW.set {w W:World} {g:Nat} {l:List Nat} (h:NW w g l W) (i x:Nat):NW w g (l.set i x) (W.setCell ⟨g,i,none⟩ (.int .u64 (x:Int))) where
 b:=by rw [heap_setCell_same _ _ _ _ _ _ h.b,WN_set]
 hg:=h.hg
 bel:=h.bel.trans (qQi (qQF (World.grownBy.refl W (some g)) _ _) h.bel.size (by rintro k ⟨⟩;exact h.hg))
theorem NW.other {w W:World} {g k:Nat} {m:List Nat} (h:NW w k m W) (hne:k≠g) (hg:w.heap.size≤g) (i:Nat) (v:Value):NW w k m (W.setCell ⟨g,i,none⟩ v) where
 b:=qQd (qQF (World.grownBy.refl _ _) _ _) (by simp;exact hne) h.b
 hg:=h.hg
 bel:=h.bel.trans (qQi (qQF (World.grownBy.refl W (some g)) _ _) h.bel.size (by rintro k ⟨⟩;exact hg))
theorem NW.drew {w W:World} {g:Nat} {l:List Nat} (h:NW w g l W):NW w g l W.drew:=⟨h.b,h.hg,h.bel.drew⟩
theorem NW.keep {w W W':World} {g:Nat} {l:List Nat} (h:NW w g l W) (hb:Below W.heap.size W W'):NW w g l W':=⟨qQb hb (qQe h.b) h.b,h.hg,h.bel.trans (hb.mono h.bel.size)⟩
theorem qXO {w W W':World} {g:Nat} {m:List Nat} (h:NW w g m W) (hg:W.grownBy W' (some g)):Below w.heap.size w W':=
 h.bel.trans (qQi hg h.bel.size (by rintro k ⟨⟩;exact h.hg))
theorem nadd_any (n m:List Nat) (hn:n.length=5) (hm:m.length=5) (bn:Bd 4611686018427387904 n) (bm:Bd 4611686018427387904 m) (w:World) :
  Calls Tryz.prog 123 #[.agg (WN n),.agg (WN m)] w fun e w'=>e=.returned (.agg (WN (addK n m 5)))∧Below w.heap.size w w':=by
 have HN:=Lh hn
 have HM:=Lh hm
 have BN:=Lh bn
 have BM:=Lh bm
 have Z5':=Lh zero5
 clear hn hm bn bm
 go_enter Tryz.func123,Tryz.ntmps123
 go_wp2_with fail
 rw[←Z5'.out]
 obtain⟨w1,hw1⟩:∃w1,w1=((w.alloc (.cells (WN n) 222)).alloc (.cells (WN m) 222)).alloc (.cells (WN Z5) 222):=⟨_,rfl⟩
 have S1:=Lh (show NW w w.heap.size n w1∧NW w (w.heap.size+1) m w1∧NW w (w.heap.size+1+1) Z5 w1 by
  have hb:Below w.heap.size w w1:=by rw [hw1];exact(((Below.refl _ _).alloc (kQh _) _).alloc (by simp) _).alloc (by simp;omega) _
  rw[hw1]at hb ⊢
  exact⟨⟨qQM _ _ _ (by simp;omega) (qQM _ _ _ (by simp) (qQk _ _ _ rfl)),by omega,hb⟩,⟨qQM _ _ _ (by simp) (qQk _ _ _ (by simp)),by omega,hb⟩,⟨qQk _ _ _ (by simp),by omega,hb⟩⟩)
 rw[←hw1]
 clear hw1
 go_loopw [6] (fun i wr=>∃j:Nat,j≤5∧i=.int .i64 (j:Int)∧NW w w.heap.size (addK n m j) wr∧NW w (w.heap.size+1) m wr∧NW w (w.heap.size+1+1) Z5 wr) (fun i _=>5-(intOf i).toNat)
 case atStart=>exact⟨0,by omega,rfl,S1.out⟩
 case round=>
  obtain⟨j,hj,rfl,hs⟩:=hrel
  have J:=Lh hj
  have S2:=Lh hs
  have AL:=Lh (show(addK n m j).length=5 by rw [qJm,HN.out])
  clear hj hs S1
  by_cases hlt:j<5
  ·have hD:decide ((j:Int)<5)=true:=by simp;omega
   obtain⟨x,hx⟩:∃x,x=(addK n m j).getD j 0:=⟨_,rfl⟩
   obtain⟨y,hy⟩:∃y,y=m.getD j 0:=⟨_,rfl⟩
   have e1:=wrap_u64_add x y (by rw [hx,hy,qYW _ _ _ _ (kQh _)];have:=BN.out j;have:=BM.out j;omega)
   have a1:=qQg S2.out.1.b j (qXe _ j (by rw [AL.out];exact hlt))
   have f1:=qQz S2.out.1.b j
   have a2:=qQg S2.out.2.1.b j (qXe _ j (by rw [HM.out];exact hlt))
   rw[←hx]at a1
   rw[←hy]at a2
   have X:=Lh hx
   have Y:=Lh hy
   have b1:(j:Int)<5:=by omega
   clear hx hy
   go_upto_region 4 with fail
   have A2:=Lh a2
   refine qZl (fun W=>W.cell? ⟨w.heap.size+1,j,none⟩=some (.int .u64 (y:Int))) [0,1,3,4,5] [2,6,7,8] (by kernel_rfl) (by kernel_rfl) (fun _ _ d _ _ h=>by cases d<;>exact h) (a2) ?_
   simp only [kQl,kQm,kQd,kQg,kQe]
   refine qQm (by rfl) (fun W hW=>by go_simp;rfl) ?_
   simp only [Act.put,pq1,pq2,pq3]
   refine qQm (by rfl) (fun W hW=>by go_simp;rfl) ?_
   simp only [Act.put,pq1,pq2,pq3]
   refine qQm (by rfl) (fun W hW=>by go_simp;rfl) ?_
   simp only [Act.put,pq1,pq2,pq3]
   refine qQm (by rfl) (fun W hW=>by go_simp;rfl) ?_
   simp only [Act.put,pq1,pq2,pq3]
   refine qQm (by rfl) (fun W hW=>qQq 36 (.tmp 13) rfl _ Tryz.underlying36 rfl rfl hW) ?_
   simp only [Act.put,pq1,pq2,pq3]
   refine qXE ?_
   refine qZu (by rfl) A2.out (qQq 36 (.tmp 10) rfl _ Tryz.underlying36 rfl rfl a1) ?_
   simp only [Act.put,pq1,pq2,pq3]
   refine qZu (by rfl) A2.out (by go_simp;rfl) ?_
   simp only [Act.put,pq1,pq2,pq3]
   refine qZu (by rfl) A2.out (by go_simp;rfl) ?_
   simp only [Act.put,pq1,pq2,pq3]
   refine qXi (by rfl) (fun K hK=>?_)
   go_simp
   rw[show(x:Int)+(y:Int)=((x+y:Nat):Int) by omega]
   have S3:=Lh (show NW w w.heap.size (addK n m (j+1)) (wr.setCell ⟨w.heap.size,j,none⟩ (.int .u64 ((x+y:Nat):Int))).drew∧NW w (w.heap.size+1) m (wr.setCell ⟨w.heap.size,j,none⟩ (.int .u64 ((x+y:Nat):Int))).drew∧NW w (w.heap.size+1+1) Z5 (wr.setCell ⟨w.heap.size,j,none⟩ (.int .u64 ((x+y:Nat):Int))).drew by
    rw[addK,←X.out,←Y.out]
    exact⟨(S2.out.1.set j (x+y)).drew,(S2.out.2.1.other (by omega) (by omega) _ _).drew,(S2.out.2.2.other (by omega) (by omega) _ _).drew⟩)
   refine hK.out _ _ (by have:=qQg S3.out.2.1.b j (qXe m j (by rw [HM.out];exact hlt));rw [←Y.out]at this;exact this) ?_
   clear hK K
   refine qXD ?_
   clear a1 f1 a2 e1
   go_wp2_with fail
   go_roundw
   case rel=>exact⟨j+1,by omega,by go_num,S3.out.1,S3.out.2.1,S3.out.2.2⟩
   case measure=>simp [intOf];omega
  ·have hj:Hid (j=5):=show j=5 by have:=J.out;omega
   have hD:decide ((j:Int)<5)=false:=by simp;omega
   have S3:=Lh (show NW w w.heap.size (addK n m 5) wr by have:=S2.out.1;rw [hj.out]at this;exact this)
   have L3:=Lh (show(addK n m 5).length=5 by rw [qJm,HN.out])
   obtain⟨L,hL⟩:∃L,L=addK n m 5:=⟨_,rfl⟩
   rw[←hL]at S3 L3
   have HLL:=Lh hL
   have Z:=Lh (show(Tryz.prog.info? 222).map (·.size)=some (WN L).size by rw [qZs,L3.out];kernel_rfl)
   clear hL
   go_wp2_with (first
    | (refine wpList_load_row rfl 222 (.tmp 2) rfl w.heap.size rfl 222 (WN L) (0,0) _ S3.out.b Tryz.underlying222 rfl Z.out ?_)
    | (refine qQf rfl rfl 222 (.tmp 4) (.tmp 18) rfl (w.heap.size+1+1) (WN L) rfl rfl 222 _ S2.out.2.2.b Z.out (by rw [qZs,qZs,L3.out];rfl) (qVC _) ?_;intro w8 hz8 hg8 _))
   exact bodyPost_ret (results_cell_row rfl _ _ (w.heap.size+1+1) 222 (WN L) (0,0) _ rfl hz8 Tryz.underlying222 rfl Z.out) rfl ⟨by rw [HLL.out],qXO S2.out.2.2 hg8⟩
theorem qVP (n:List Nat) (hn:n.length=5) (bn:Bd 4611686018427387904 n) (w:World) :
  Calls Tryz.prog 136 #[.agg (WN n)] w fun e w'=>e=.returned (.agg (WN (qZX n)))∧Below w.heap.size w w':=by
 have HN:=Lh hn
 have BN:=Lh bn
 have Z5':=Lh zero5
 clear hn bn
 go_enter Tryz.func136,Tryz.ntmps136
 go_wp2_with fail
 rw[←Z5'.out]
 obtain⟨w1,hw1⟩:∃w1,w1=(w.alloc (.cells (WN n) 222)).alloc (.cells (WN Z5) 222):=⟨_,rfl⟩
 have S1:=Lh (show NW w w.heap.size n w1∧NW w (w.heap.size+1) Z5 w1 by
  have hb:Below w.heap.size w w1:=by rw [hw1];exact((Below.refl _ _).alloc (kQh _) _).alloc (by simp) _
  rw[hw1]at hb ⊢
  exact⟨⟨qQM _ _ _ (by simp) (qQk _ _ _ rfl),by omega,hb⟩,⟨qQk _ _ _ (by simp),by omega,hb⟩⟩)
 rw[←hw1]
 clear hw1
 go_loopw [5] (fun i wr=>∃j:Nat,j≤5∧i=.int .i64 (j:Int)∧NW w w.heap.size (qVA n j) wr∧NW w (w.heap.size+1) Z5 wr) (fun i _=>5-(intOf i).toNat)
 case atStart=>exact⟨0,by omega,rfl,S1.out⟩
 case round=>
  obtain⟨j,hj,rfl,hs⟩:=hrel
  have J:=Lh hj
  have S2:=Lh hs
  clear hj hs S1
  by_cases hlt:j<5
  ·have hD:decide ((j:Int)<5)=true:=by simp;omega
   obtain⟨q,hq⟩:∃q,q=qVA n j:=⟨_,rfl⟩
   rw[←hq]at S2
   have QL:=Lh (show q.length=5 by rw [hq,qJN,HN.out])
   have QB:=Lh (show Bd 9223372036854775808 q by rw [hq];exact carryK_bd n HN.out BN.out j J.out)
   have QQ:=Lh hq
   obtain⟨x,hx⟩:∃x,x=q.getD j 0:=⟨_,rfl⟩
   have hxb:x≤9223372036854775808:=by rw [hx];exact QB.out j
   have e1:=mask26 x (by omega)
   have a1:=qQg S2.out.1.b j (qXe _ j (by rw [QL.out];exact hlt))
   have f1:=qQz S2.out.1.b j
   rw[←hx]at a1
   have X:=Lh hx
   have b1:(j:Int)<5:=by omega
   clear hx hq
   go_upto_region 6 with fail
   clear a1 f1 e1
   obtain⟨c,hc⟩:∃c,c=x/67108864:=⟨_,rfl⟩
   rw[show(x:Int) % 67108864=((x % 67108864:Nat):Int) by omega,show(x:Int)/67108864=(c:Int) by omega]
   obtain⟨w2,hw2⟩:∃w2,w2=wr.setCell ⟨w.heap.size,j,none⟩ (.int .u64 ((x % 67108864:Nat):Int)):=⟨_,rfl⟩
   obtain⟨p,hp⟩:∃p,p=q.set j (x % 67108864):=⟨_,rfl⟩
   have S3:=Lh (show NW w w.heap.size p w2∧NW w (w.heap.size+1) Z5 w2 by rw [hw2,hp];exact⟨S2.out.1.set j _,S2.out.2.other (by omega) (by omega) _ _⟩)
   rw[←hw2]
   have C:=Lh hc
   have cb:c≤137438953472:=by omega
   have PL:=Lh (show p.length=5 by rw [hp,List.length_set,QL.out])
   have PB:=Lh (show Bd 9223372036854775808 p by rw [hp];exact Bd.set QB.out (by omega))
   have PP:=Lh hp
   clear hw2 hp hc S2 hxb
   by_cases h4:j+1<5
   ·have hE:decide ((j:Int)+1<5)=true:=by simp;omega
    obtain⟨y,hy⟩:∃y,y=p.getD (j+1) 0:=⟨_,rfl⟩
    have hyb:y≤9223372036854775808:=by rw [hy];exact PB.out _
    have a2:=qQg S3.out.1.b (j+1) (qXe _ (j+1) (by rw [PL.out];exact h4))
    have f2:=qQz S3.out.1.b (j+1)
    rw[←hy]at a2
    have Y:=Lh hy
    have b2:(j:Int)+1<5:=by omega
    have b3:(y:Int)+(c:Int)≤18446744073709551615:=by omega
    have e2:((j:Int)+1).toNat=j+1:=by omega
    clear hy
    go_wp2_with fail
    go_roundw
    case rel=>
     refine⟨j+1,by omega,by go_num,?_⟩
     rw[show(y:Int)+(c:Int)=((y+c:Nat):Int) by omega]
     have e:qVA n (j+1)=p.set (j+1) (y+c):=by
      rw[qVA]
      rw[if_pos h4,←QQ.out,←X.out,←PP.out,←Y.out,←C.out]
     rw[e]
     exact⟨S3.out.1.set _ _,S3.out.2.other (by omega) (by omega) _ _⟩
    case measure=>simp [intOf];omega
   ·have hE:decide ((j:Int)+1<5)=false:=by simp;omega
    obtain⟨y,hy⟩:∃y,y=p.getD 0 0:=⟨_,rfl⟩
    have hyb:y≤9223372036854775808:=by rw [hy];exact PB.out _
    have a2:=qQg S3.out.1.b 0 (qXe _ 0 (by rw [PL.out];omega))
    have f2:=qQz S3.out.1.b 0
    rw[←hy]at a2
    have Y:=Lh hy
    have b3:(y:Int)+5*(c:Int)≤18446744073709551615:=by omega
    have b4:5*(c:Int)≤18446744073709551615:=by omega
    clear hy
    go_wp2_with fail
    go_roundw
    case rel=>
     refine⟨j+1,by omega,by go_num,?_⟩
     rw[show(y:Int)+5*(c:Int)=((y+5*c:Nat):Int) by omega]
     have e:qVA n (j+1)=p.set 0 (y+5*c):=by
      rw[qVA]
      rw[if_neg h4,←QQ.out,←X.out,←PP.out,←Y.out,←C.out]
     rw[e]
     exact⟨S3.out.1.set _ _,S3.out.2.other (by omega) (by omega) _ _⟩
    case measure=>simp [intOf];omega
  ·have hj:Hid (j=5):=show j=5 by have:=J.out;omega
   have hD:decide ((j:Int)<5)=false:=by simp;omega
   have S3:=Lh (show NW w w.heap.size (qZX n) wr by have:=S2.out.1;rw [hj.out]at this;exact this)
   have L3:=Lh (show(qZX n).length=5 by rw [qZe,HN.out])
   obtain⟨L,hL⟩:∃L,L=qZX n:=⟨_,rfl⟩
   rw[←hL]at S3 L3
   have HLL:=Lh hL
   have Z:=Lh (show(Tryz.prog.info? 222).map (·.size)=some (WN L).size by rw [qZs,L3.out];kernel_rfl)
   clear hL
   go_wp2_with (first
    | (refine wpList_load_row rfl 222 (.tmp 1) rfl w.heap.size rfl 222 (WN L) (0,0) _ S3.out.b Tryz.underlying222 rfl Z.out ?_)
    | (refine qQf rfl rfl 222 (.tmp 2) (.tmp 34) rfl (w.heap.size+1) (WN L) rfl rfl 222 _ S2.out.2.b Z.out (by rw [qZs,qZs,L3.out];rfl) (qVC _) ?_;intro w8 hz8 hg8 _))
   exact bodyPost_ret (results_cell_row rfl _ _ (w.heap.size+1) 222 (WN L) (0,0) _ rfl hz8 Tryz.underlying222 rfl Z.out) rfl ⟨by rw [HLL.out],qXO S2.out.2 hg8⟩
theorem carryL_bd (n:List Nat) (hn:n.length=5) (h:Bd 4611686018427387904 n):Bd 4611686018427387904 (qZX n):=by
 obtain⟨b0,b1,b2,b3,b4,c4,e,h0,h1,h2,h3,h4,hc⟩:=qYc n hn h
 rw[e]
 intro j
 rcases j with _|_|_|_|_|j<;>simp<;>omega
structure TmW (w:World) (n r acc:List Nat) (W:World):Prop where
 bn:NW w w.heap.size n W
 br:NW w (w.heap.size+1) r W
 bz:NW w (w.heap.size+1+1) Z5 W
 ba:NW w (w.heap.size+1+1+1) acc W
theorem TmW.set {w W:World} {n r acc:List Nat} (h:TmW w n r acc W) (i x:Nat):TmW w n r (acc.set i x) (W.setCell ⟨w.heap.size+1+1+1,i,none⟩ (.int .u64 (x:Int))).drew where
 bn:=(h.bn.other (by omega) (by omega) _ _).drew
 br:=(h.br.other (by omega) (by omega) _ _).drew
 bz:=(h.bz.other (by omega) (by omega) _ _).drew
 ba:=(h.ba.set i x).drew
theorem ntimes_any (n r:List Nat) (hn:n.length=5) (hr:r.length=5) (bn:Bd 268435456 n) (br:Bd 67108864 r) (w:World) :
  Calls Tryz.prog 124 #[.agg (WN n),.agg (WN r)] w fun e w'=>e=.returned (.agg (WN (qVZ n r)))∧Below w.heap.size w w':=by
 have HN:=Lh hn
 have HR:=Lh hr
 have BN:=Lh bn
 have BR:=Lh br
 have Z5':=Lh zero5
 clear hn hr bn br
 go_enter Tryz.func124,Tryz.ntmps124
 go_wp2_with fail
 rw[←Z5'.out]
 obtain⟨w1,hw1⟩:∃w1,w1=(((w.alloc (.cells (WN n) 222)).alloc (.cells (WN r) 222)).alloc (.cells (WN Z5) 222)).alloc (.cells (WN Z5) 222):=⟨_,rfl⟩
 have S1:=Lh (show TmW w n r (qXR n r 0) w1 by
  have hb:Below w.heap.size w w1:=by rw [hw1];exact((((Below.refl _ _).alloc (kQh _) _).alloc (by simp) _).alloc (by simp<;>omega) _).alloc (by simp<;>omega) _
  rw[hw1]at hb ⊢
  exact⟨⟨qQM _ _ _ (by simp<;>omega) (qQM _ _ _ (by simp<;>omega) (qQM _ _ _ (by simp) (qQk _ _ _ rfl))),by omega,hb⟩,⟨qQM _ _ _ (by simp<;>omega) (qQM _ _ _ (by simp) (qQk _ _ _ (by simp))),by omega,hb⟩,⟨qQM _ _ _ (by simp) (qQk _ _ _ (by simp)),by omega,hb⟩,⟨qQk _ _ _ (by simp),by omega,hb⟩⟩)
 rw[←hw1]
 clear hw1
 go_loopw [8] (fun u wr=>∃i:Nat,i≤5∧u=.int .i64 (i:Int)∧TmW w n r (qXR n r i) wr) (fun u _=>5-(intOf u).toNat)
 case atStart=>exact⟨0,by omega,rfl,S1.out⟩
 case round=>
  obtain⟨i,hi,rfl,hs⟩:=hrel
  have I:=Lh hi
  have S2:=Lh hs
  clear hi hs S1
  by_cases hlt:i<5
  ·have hD:decide ((i:Int)<5)=true:=by simp;omega
   obtain⟨wo,rfl⟩:∃wo:World,wo=wr:=⟨_,rfl⟩
   go_wp2_with fail
   go_loopw [11] (fun u wr=>∃k:Nat,k≤5∧u=.int .i64 (k:Int)∧TmW w n r (rowT n r (qXR n r i) i k) wr) (fun u _=>5-(intOf u).toNat)
   case atStart=>exact⟨0,by omega,rfl,S2.out⟩
   case round=>
    obtain⟨k,hk,rfl,hs⟩:=hrel
    have KK:=Lh hk
    have S3:=Lh hs
    clear hk hs S2
    by_cases hlk:k<5
    ·have hE:decide ((k:Int)<5)=true:=by simp;omega
     obtain⟨acc,hacc⟩:∃acc,acc=rowT n r (qXR n r i) i k:=⟨_,rfl⟩
     rw[←hacc]at S3
     have AA:=Lh hacc
     have AL:=Lh (show acc.length=5 by rw [hacc,qKO,qXg])
     have AB:=Lh (show Bd 4611686018427387904 acc by rw [hacc];exact(rowT_bd BN.out BR.out (qKF BN.out BR.out i) i k).mono (by omega))
     obtain⟨x,hx⟩:∃x,x=n.getD i 0:=⟨_,rfl⟩
     obtain⟨y,hy⟩:∃y,y=r.getD k 0:=⟨_,rfl⟩
     have hp:=prod_bd BN.out BR.out i k
     rw[←hx,←hy]at hp
     have a1:=qQg S3.out.bn.b i (qXe _ i (by rw [HN.out];exact hlt))
     have a2:=qQg S3.out.br.b k (qXe _ k (by rw [HR.out];exact hlk))
     rw[←hx]at a1
     rw[←hy]at a2
     have hxb:x≤268435456:=by rw [hx];exact BN.out i
     have X:=Lh hx
     have Y:=Lh hy
     have A12:=Lh (And.intro a1 a2)
     have b1:(i:Int)<5:=by omega
     have b2:(k:Int)<5:=by omega
     have e0:=qKA ((i:Int)+(k:Int)) (by omega)
     have b0:(0:Int)≤(i:Int)+(k:Int):=by omega
     have e1:=wrap_u64_mul x y (by omega)
     rw[Int.natCast_mul]at e1
     clear hacc hx hy
     by_cases h5:i+k<5
     ·have hF:decide ((i:Int)+(k:Int)<5)=true:=by simp;omega
      have b3:(i:Int)+(k:Int)<5:=by omega
      have e3:((i:Int)+(k:Int)).toNat=i+k:=by omega
      obtain⟨o,ho⟩:∃o,o=acc.getD (i+k) 0:=⟨_,rfl⟩
      have a3:=qQg S3.out.ba.b (i+k) (qXe _ (i+k) (by rw [AL.out];exact h5))
      have f3:=qQz S3.out.ba.b (i+k)
      rw[←ho]at a3
      have e2:=wrap_u64 (o+x*y) (by have:=AB.out (i+k);omega)
      rw[Int.natCast_add,Int.natCast_mul]at e2
      have O:=Lh ho
      clear ho a1 a2
      go_upto_region 9 with fail
      refine qZl (fun W=>W.cell? ⟨w.heap.size,i,none⟩=some (.int .u64 (x:Int))∧W.cell? ⟨w.heap.size+1,k,none⟩=some (.int .u64 (y:Int))) [0,1,2,3,5,6,7,8,9,10,11] [4,12,13,14] (by kernel_rfl) (by kernel_rfl) (fun _ _ d _ _ h=>by cases d<;>exact h) A12.out ?_
      simp only [kQl,kQm,kQd,kQg,kQe]
      refine qQm (by rfl) (fun W hW=>by go_simp;rfl) ?_
      simp only [Act.put,pq1,pq2,pq3]
      refine qQm (by rfl) (fun W hW=>by go_simp;rfl) ?_
      simp only [Act.put,pq1,pq2,pq3]
      refine qQm (by rfl) (fun W hW=>by go_simp;rfl) ?_
      simp only [Act.put,pq1,pq2,pq3]
      refine qQm (by rfl) (fun W hW=>by go_simp;rfl) ?_
      simp only [Act.put,pq1,pq2,pq3]
      refine qQm (by rfl) (fun W hW=>by go_simp;rfl) ?_
      simp only [Act.put,pq1,pq2,pq3]
      refine qQm (by rfl) (fun W hW=>by go_simp;rfl) ?_
      simp only [Act.put,pq1,pq2,pq3]
      refine qQm (by rfl) (fun W hW=>qQq 36 (.tmp 24) rfl _ Tryz.underlying36 rfl rfl hW.1) ?_
      simp only [Act.put,pq1,pq2,pq3]
      refine qQm (by rfl) (fun W hW=>by go_simp;rfl) ?_
      simp only [Act.put,pq1,pq2,pq3]
      refine qQm (by rfl) (fun W hW=>by go_simp;rfl) ?_
      simp only [Act.put,pq1,pq2,pq3]
      refine qQm (by rfl) (fun W hW=>qQq 36 (.tmp 27) rfl _ Tryz.underlying36 rfl rfl hW.2) ?_
      simp only [Act.put,pq1,pq2,pq3]
      refine qQm (by rfl) (fun W hW=>by go_simp;rfl) ?_
      simp only [Act.put,pq1,pq2,pq3]
      refine qXE ?_
      refine qZu (by rfl) A12.out (qQq 36 (.tmp 21) rfl _ Tryz.underlying36 rfl rfl a3) ?_
      simp only [Act.put,pq1,pq2,pq3]
      refine qZu (by rfl) A12.out (by go_simp;rfl) ?_
      simp only [Act.put,pq1,pq2,pq3]
      refine qZu (by rfl) A12.out (by go_simp;rfl) ?_
      simp only [Act.put,pq1,pq2,pq3]
      refine qXi (by rfl) (fun K hK=>?_)
      go_simp
      rw[show(o:Int)+(x:Int)*(y:Int)=((o+x*y:Nat):Int) by rw [Int.natCast_add,Int.natCast_mul]]
      have S4:=Lh (S3.out.set (i+k) (o+x*y))
      refine hK.out _ _ (⟨(qQg S4.out.bn.b i (qXe _ i (by rw [HN.out];exact hlt))).trans (by rw [X.out]),(qQg S4.out.br.b k (qXe _ k (by rw [HR.out];exact hlk))).trans (by rw [Y.out])⟩) ?_
      clear hK K
      refine qXD ?_
      clear a3 f3 e0 e1 e2 e3
      go_wp2_with fail
      go_roundw
      case rel=>
       refine⟨k+1,by omega,by go_num,?_⟩
       rw[rowT,stepT,if_pos h5,←AA.out,←O.out,←X.out,←Y.out]
       exact S4.out
      case measure=>simp [intOf];omega
     ·have hF:decide ((i:Int)+(k:Int)<5)=false:=by simp;omega
      have b3:(i:Int)+(k:Int)-5<5:=by omega
      have b4:(0:Int)≤(i:Int)+(k:Int)-5:=by omega
      have b5:(5:Int)≤(i:Int)+(k:Int):=by omega
      have e3:((i:Int)+(k:Int)-5).toNat=i+k-5:=by omega
      have e4:=qKA ((i:Int)+(k:Int)-5) (by omega)
      obtain⟨o,ho⟩:∃o,o=acc.getD (i+k-5) 0:=⟨_,rfl⟩
      have a3:=qQg S3.out.ba.b (i+k-5) (qXe _ (i+k-5) (by rw [AL.out];omega))
      have f3:=qQz S3.out.ba.b (i+k-5)
      rw[←ho]at a3
      have e2:=wrap_u64 (o+5*x*y) (by have:=AB.out (i+k-5);omega)
      rw[Int.natCast_add,Int.natCast_mul,Int.natCast_mul]at e2
      have e5:=wrap_u64 (5*x*y) (by omega)
      rw[Int.natCast_mul,Int.natCast_mul]at e5
      have e6:=wrap_u64 (5*x) (by omega)
      rw[Int.natCast_mul]at e6
      have c5:((5:Nat):Int)=5:=rfl
      rw[c5]at e2 e5 e6
      have O:=Lh ho
      clear ho a1 a2 c5
      go_upto_region 10 with fail
      refine qZl (fun W=>W.cell? ⟨w.heap.size,i,none⟩=some (.int .u64 (x:Int))∧W.cell? ⟨w.heap.size+1,k,none⟩=some (.int .u64 (y:Int))) [0,1,2,3,4,6,7,8,9,10,11,12,13] [5,14,15,16] (by kernel_rfl) (by kernel_rfl) (fun _ _ d _ _ h=>by cases d<;>exact h) A12.out ?_
      simp only [kQl,kQm,kQd,kQg,kQe]
      refine qQm (by rfl) (fun W hW=>by go_simp;rfl) ?_
      simp only [Act.put,pq1,pq2,pq3]
      refine qQm (by rfl) (fun W hW=>by go_simp;rfl) ?_
      simp only [Act.put,pq1,pq2,pq3]
      refine qQm (by rfl) (fun W hW=>by go_simp;rfl) ?_
      simp only [Act.put,pq1,pq2,pq3]
      refine qQm (by rfl) (fun W hW=>by go_simp;rfl) ?_
      simp only [Act.put,pq1,pq2,pq3]
      refine qQm (by rfl) (fun W hW=>by go_simp;rfl) ?_
      simp only [Act.put,pq1,pq2,pq3]
      refine qQm (by rfl) (fun W hW=>by go_simp;rfl) ?_
      simp only [Act.put,pq1,pq2,pq3]
      refine qQm (by rfl) (fun W hW=>by go_simp;rfl) ?_
      simp only [Act.put,pq1,pq2,pq3]
      refine qQm (by rfl) (fun W hW=>qQq 36 (.tmp 39) rfl _ Tryz.underlying36 rfl rfl hW.1) ?_
      simp only [Act.put,pq1,pq2,pq3]
      refine qQm (by rfl) (fun W hW=>by go_simp;rfl) ?_
      simp only [Act.put,pq1,pq2,pq3]
      refine qQm (by rfl) (fun W hW=>by go_simp;rfl) ?_
      simp only [Act.put,pq1,pq2,pq3]
      refine qQm (by rfl) (fun W hW=>by go_simp;rfl) ?_
      simp only [Act.put,pq1,pq2,pq3]
      refine qQm (by rfl) (fun W hW=>qQq 36 (.tmp 43) rfl _ Tryz.underlying36 rfl rfl hW.2) ?_
      simp only [Act.put,pq1,pq2,pq3]
      refine qQm (by rfl) (fun W hW=>by go_simp;rfl) ?_
      simp only [Act.put,pq1,pq2,pq3]
      refine qXE ?_
      refine qZu (by rfl) A12.out (qQq 36 (.tmp 36) rfl _ Tryz.underlying36 rfl rfl a3) ?_
      simp only [Act.put,pq1,pq2,pq3]
      refine qZu (by rfl) A12.out (by go_simp;rfl) ?_
      simp only [Act.put,pq1,pq2,pq3]
      refine qZu (by rfl) A12.out (by go_simp;rfl) ?_
      simp only [Act.put,pq1,pq2,pq3]
      refine qXi (by rfl) (fun K hK=>?_)
      go_simp
      rw[show(o:Int)+5*(x:Int)*(y:Int)=((o+5*x*y:Nat):Int) by rw [Int.natCast_add,Int.natCast_mul,Int.natCast_mul];rfl]
      have S4:=Lh (S3.out.set (i+k-5) (o+5*x*y))
      refine hK.out _ _ (⟨(qQg S4.out.bn.b i (qXe _ i (by rw [HN.out];exact hlt))).trans (by rw [X.out]),(qQg S4.out.br.b k (qXe _ k (by rw [HR.out];exact hlk))).trans (by rw [Y.out])⟩) ?_
      clear hK K
      refine qXD ?_
      clear a3 f3 e0 e1 e2 e3 e4 e5 e6
      go_wp2_with fail
      go_roundw
      case rel=>
       refine⟨k+1,by omega,by go_num,?_⟩
       rw[rowT,stepT,if_neg h5,←AA.out,←O.out,←X.out,←Y.out]
       exact S4.out
      case measure=>simp [intOf];omega
    ·have hk5:Hid (k=5):=show k=5 by have:=KK.out;omega
     have hE:decide ((k:Int)<5)=false:=by simp;omega
     go_wp2_with fail
     go_roundw
     case rel=>
      refine⟨i+1,by omega,by go_num,?_⟩
      rw[qXR,←hk5.out]
      exact S3.out
     case measure=>simp [intOf];omega
  ·have hi:Hid (i=5):=show i=5 by have:=I.out;omega
   have hD:decide ((i:Int)<5)=false:=by simp;omega
   have L1:=Lh (qKF BN.out BR.out 5)
   obtain⟨t,ht⟩:∃t,t=qXR n r i:=⟨_,rfl⟩
   rw[←ht]at S2
   have TT:=Lh (show t=qXR n r 5 by rw [ht,hi.out])
   have TL:=Lh (show t.length=5 by rw [ht,qXg])
   have TB:=Lh (show Bd 4611686018427387904 t by rw [TT.out];exact L1.out.mono (by omega))
   have Z:=Lh (show(Tryz.prog.info? 222).map (·.size)=some (WN t).size by rw [qZs,TL.out];kernel_rfl)
   clear ht
   go_wp2_with (refine wpList_load_row rfl 222 (.tmp 5) rfl (w.heap.size+1+1+1) rfl 222 (WN t) (0,0) _ S2.out.ba.b Tryz.underlying222 rfl Z.out ?_)
   refine(qVP t TL.out TB.out _).mono ?_
   rintro e w2 ⟨rfl,hb2⟩
   have B2:=Lh hb2
   clear hb2
   obtain⟨t2,ht2⟩:∃t2,t2=qZX t:=⟨_,rfl⟩
   rw[←ht2]
   have TL2:=Lh (show t2.length=5 by rw [ht2,qZe,TL.out])
   have TB2:=Lh (show Bd 4611686018427387904 t2 by rw [ht2];exact carryL_bd t TL.out TB.out)
   have TT2:=Lh ht2
   clear ht2
   go_wp2_with fail
   refine(qVP t2 TL2.out TB2.out _).mono ?_
   rintro e w3 ⟨rfl,hb3⟩
   have B3:=Lh (B2.out.trans (hb3.mono B2.out.size))
   clear hb3
   obtain⟨L,hL⟩:∃L,L=qZX t2:=⟨_,rfl⟩
   rw[←hL]
   have L3:=Lh (show L.length=5 by rw [hL,qZe,TL2.out])
   have HLL:=Lh (show L=qVZ n r by rw [hL,TT2.out,TT.out,qVZ])
   have Z2:=Lh (show(Tryz.prog.info? 222).map (·.size)=some (WN L).size by rw [qZs,L3.out];kernel_rfl)
   have S3:=Lh (S2.out.bz.keep B3.out)
   clear hL
   go_wp2_with (refine qQf rfl rfl 222 (.tmp 4) (.tmp 52) rfl (w.heap.size+1+1) (WN L) rfl rfl 222 _ S3.out.b Z2.out (by rw [qZs,qZs,L3.out];rfl) (qVC _) ?_;intro w8 hz8 hg8 _)
   exact bodyPost_ret (results_cell_row rfl _ _ (w.heap.size+1+1) 222 (WN L) (0,0) _ rfl hz8 Tryz.underlying222 rfl Z2.out) rfl ⟨by rw [HLL.out],qXO S3.out hg8⟩
def qZ7 (m:List Nat):Nat→List Nat
 | 0=>m
 | i+1=>((qZ7 m i).set (i+1) ((qZ7 m i).getD (i+1) 0+(qZ7 m i).getD i 0/67108864)).set i ((qZ7 m i).getD i 0 % 67108864)
theorem qJw (n:List Nat) (i:Nat):(qZ7 n i).length=n.length:=by
 induction i with
 | zero=>rfl
 | succ i ih=>simp [qZ7,ih]
def qQT (x:Nat):List Nat:=[x % 67108864,x/67108864 % 67108864,x/4503599627370496 % 67108864,x/302231454903657293676544 % 67108864,x/20282409603651670423947251286016 % 67108864]
theorem limbs_val (b0 b1 b2 b3 b4:Nat) (h0:b0<67108864) (h1:b1<67108864) (h2:b2<67108864) (h3:b3<67108864) (h4:b4<67108864) : [b0,b1,b2,b3,b4]=qQT (valN [b0,b1,b2,b3,b4]):=by
 simp only [qQT,valN,List.getD_cons_zero,List.getD_cons_succ]
 congr 1
 ·omega
 congr 1
 ·omega
 congr 1
 ·omega
 congr 1
 ·omega
 congr 1
 omega
theorem limbs_lt (b0 b1 b2 b3 b4:Nat) (h0:b0<67108864) (h1:b1<67108864) (h2:b2<67108864) (h3:b3<67108864) (h4:b4<67108864):valN [b0,b1,b2,b3,b4]<1361129467683753853853498429727072845824:=by
 simp only [valN,List.getD_cons_zero,List.getD_cons_succ]
 omega
theorem leastK_form (b0 b1 b2 b3 b4:Nat) (h0:b0<67108864) (h1:b1<67108864) (h2:b2<67108864) (h3:b3<67108864) (h4:b4<67108864) :
  ∃c0 c1 c2 c3 c4,qZ7 [b0+5,b1,b2,b3,b4] 4=[c0,c1,c2,c3,c4]∧c0<67108864∧c1<67108864∧c2<67108864∧c3<67108864∧c4≤67108864∧valN [c0,c1,c2,c3,c4]=valN [b0,b1,b2,b3,b4]+5:=by
 refine⟨(b0+5) % 67108864,(b1+(b0+5)/67108864) % 67108864,(b2+(b1+(b0+5)/67108864)/67108864) % 67108864,(b3+(b2+(b1+(b0+5)/67108864)/67108864)/67108864) % 67108864,b4+(b3+(b2+(b1+(b0+5)/67108864)/67108864)/67108864)/67108864,rfl,?_⟩
 obtain⟨d0,hd0⟩:∃d,d=(b0+5)/67108864:=⟨_,rfl⟩
 rw[←hd0]
 obtain⟨d1,hd1⟩:∃d,d=(b1+d0)/67108864:=⟨_,rfl⟩
 rw[←hd1]
 obtain⟨d2,hd2⟩:∃d,d=(b2+d1)/67108864:=⟨_,rfl⟩
 rw[←hd2]
 obtain⟨d3,hd3⟩:∃d,d=(b3+d2)/67108864:=⟨_,rfl⟩
 rw[←hd3]
 refine⟨by omega,by omega,by omega,by omega,by omega,?_⟩
 simp only [valN,List.getD_cons_zero,List.getD_cons_succ]
 omega
def qYK (n:List Nat):List Nat:=
 let a:=qZX (qZX n)
 let m:=qZ7 (a.set 0 (a.getD 0 0+5)) 4
 if m.getD 4 0/67108864=0 then a else m.set 4 (m.getD 4 0 % 67108864)
theorem leastL_all (n:List Nat) (hn:n.length=5) (h:Bd 67108868 n):qYK n=qQT (valN n % PN):=by
 have hv:valN (qZX (qZX n)) % PN=valN n % PN:=by rw [qVU _ (by rw [qZe];exact hn),qVU _ hn]
 obtain⟨b0,b1,b2,b3,b4,e,h0,h1,h2,h3,h4⟩:=qKm n hn h
 obtain⟨c0,c1,c2,c3,c4,e2,g0,g1,g2,g3,g4,gv⟩:=leastK_form b0 b1 b2 b3 b4 h0 h1 h2 h3 h4
 have hlt:=limbs_lt b0 b1 b2 b3 b4 h0 h1 h2 h3 h4
 rw[e]at hv
 unfold qYK
 rw[e]
 have e3:qZ7 ([b0,b1,b2,b3,b4].set 0 ([b0,b1,b2,b3,b4].getD 0 0+5)) 4=[c0,c1,c2,c3,c4]:=e2
 dsimp only
 rw[e3]
 simp only [List.getD_cons_zero,List.getD_cons_succ]
 obtain⟨X,hX⟩:∃X,X=valN [b0,b1,b2,b3,b4]:=⟨_,rfl⟩
 rw[←hX]at hlt gv hv
 rw[←hv]
 by_cases hc:c4/67108864=0
 ·rw [if_pos hc]
  have:X<PN:=by
   have:=limbs_lt c0 c1 c2 c3 c4 g0 g1 g2 g3 (by omega)
   unfold PN
   omega
  rw[Nat.mod_eq_of_lt this,hX]
  exact limbs_val b0 b1 b2 b3 b4 h0 h1 h2 h3 h4
 ·rw [if_neg hc]
  have hc4:c4=67108864:=by omega
  subst hc4
  have hX2:valN [c0,c1,c2,c3,0]=X-PN∧PN≤X:=by
   simp only [valN,List.getD_cons_zero,List.getD_cons_succ]at gv ⊢
   unfold PN
   omega
  have:X % PN=X-PN:=by
   rw[Nat.mod_eq_sub_mod hX2.2,Nat.mod_eq_of_lt (by unfold PN;omega)]
  rw[this,←hX2.1]
  exact limbs_val c0 c1 c2 c3 0 g0 g1 g2 g3 (by omega)
end Go.Proofs.YtlocplkjokoknaaGreat
namespace Go.Proofs.YtlocplkjokoknaaGreat
open Go.RowKit
def qZv:List UInt8→Nat
 | []=>0
 | c::r=>c.toNat+256*qZv r
theorem qKk (a b:List UInt8):qZv (a++b)=qZv a+256 ^ a.length*qZv b:=by
 induction a with
 | nil=>simp [qZv]
 | cons c r ih=>
  simp only [List.cons_append,qZv,ih,List.length_cons,Nat.pow_succ]
  rw[Nat.mul_add,Nat.mul_comm (256 ^ r.length) 256,Nat.mul_assoc,Nat.add_assoc]
theorem qW5 (a:List UInt8):qZv a<256 ^ a.length:=by
 induction a with
 | nil=>simp [qZv]
 | cons c r ih=>
  have:=c.toNat_lt
  simp only [qZv,List.length_cons,Nat.pow_succ]
  omega
theorem qYO (l:List UInt8) (i:Nat) (hi:i<l.length):qZv (l.take (i+1))=qZv (l.take i)+(l.getD i 0).toNat*256 ^ i:=by
 rw[List.take_add_one,kQi hi,qKk]
 simp [qZv,kQa,hi]
 rw[Nat.min_eq_left (by omega),Nat.mul_comm]
theorem qZE (s a b q:Nat) (ha:a<2 ^ s) (hb:b=2 ^ s*q):a ||| b=a+b:=by
 subst hb
 rw[Nat.or_comm,←Nat.two_pow_add_eq_or_of_lt ha,Nat.add_comm]
theorem load_0 (x c:Nat) (hx:x<1) (hc:c<256):qQT (x+c*1)=[x % 67108864 ||| c*1 % 67108864,x/67108864 % 67108864 ||| c*1/67108864,x/4503599627370496 % 67108864,x/302231454903657293676544 % 67108864,x/20282409603651670423947251286016 % 67108864]:=by
 have o1:x % 67108864 ||| c*1 % 67108864=x % 67108864+c*1 % 67108864:=qZE 0 _ _ (c % 67108864) (by omega) (by omega)
 have z:x/67108864 % 67108864=0:=by omega
 have o2:x/67108864 % 67108864 ||| c*1/67108864=c*1/67108864:=by rw [z,Nat.zero_or]
 rw[o1,o2]
 simp only [qQT,List.cons.injEq]
 refine⟨?_,?_,?_,?_,?_,trivial⟩<;>omega
theorem load_1 (x c:Nat) (hx:x<256) (hc:c<256):qQT (x+c*256)=[x % 67108864 ||| c*256 % 67108864,x/67108864 % 67108864 ||| c*256/67108864,x/4503599627370496 % 67108864,x/302231454903657293676544 % 67108864,x/20282409603651670423947251286016 % 67108864]:=by
 have o1:x % 67108864 ||| c*256 % 67108864=x % 67108864+c*256 % 67108864:=qZE 8 _ _ (c % 262144) (by omega) (by omega)
 have z:x/67108864 % 67108864=0:=by omega
 have o2:x/67108864 % 67108864 ||| c*256/67108864=c*256/67108864:=by rw [z,Nat.zero_or]
 rw[o1,o2]
 simp only [qQT,List.cons.injEq]
 refine⟨?_,?_,?_,?_,?_,trivial⟩<;>omega
theorem load_2 (x c:Nat) (hx:x<65536) (hc:c<256):qQT (x+c*65536)=[x % 67108864 ||| c*65536 % 67108864,x/67108864 % 67108864 ||| c*65536/67108864,x/4503599627370496 % 67108864,x/302231454903657293676544 % 67108864,x/20282409603651670423947251286016 % 67108864]:=by
 have o1:x % 67108864 ||| c*65536 % 67108864=x % 67108864+c*65536 % 67108864:=qZE 16 _ _ (c % 1024) (by omega) (by omega)
 have z:x/67108864 % 67108864=0:=by omega
 have o2:x/67108864 % 67108864 ||| c*65536/67108864=c*65536/67108864:=by rw [z,Nat.zero_or]
 rw[o1,o2]
 simp only [qQT,List.cons.injEq]
 refine⟨?_,?_,?_,?_,?_,trivial⟩<;>omega
theorem load_3 (x c:Nat) (hx:x<16777216) (hc:c<256):qQT (x+c*16777216)=[x % 67108864 ||| c*16777216 % 67108864,x/67108864 % 67108864 ||| c*16777216/67108864,x/4503599627370496 % 67108864,x/302231454903657293676544 % 67108864,x/20282409603651670423947251286016 % 67108864]:=by
 have o1:x % 67108864 ||| c*16777216 % 67108864=x % 67108864+c*16777216 % 67108864:=qZE 24 _ _ (c % 4) (by omega) (by omega)
 have z:x/67108864 % 67108864=0:=by omega
 have o2:x/67108864 % 67108864 ||| c*16777216/67108864=c*16777216/67108864:=by rw [z,Nat.zero_or]
 rw[o1,o2]
 simp only [qQT,List.cons.injEq]
 refine⟨?_,?_,?_,?_,?_,trivial⟩<;>omega
theorem load_4 (x c:Nat) (hx:x<4294967296) (hc:c<256):qQT (x+c*4294967296)=[x % 67108864,x/67108864 % 67108864 ||| c*64 % 67108864,x/4503599627370496 % 67108864 ||| c*64/67108864,x/302231454903657293676544 % 67108864,x/20282409603651670423947251286016 % 67108864]:=by
 have o1:x/67108864 % 67108864 ||| c*64 % 67108864=x/67108864 % 67108864+c*64 % 67108864:=qZE 6 _ _ (c % 1048576) (by omega) (by omega)
 have z:x/4503599627370496 % 67108864=0:=by omega
 have o2:x/4503599627370496 % 67108864 ||| c*64/67108864=c*64/67108864:=by rw [z,Nat.zero_or]
 rw[o1,o2]
 simp only [qQT,List.cons.injEq]
 refine⟨?_,?_,?_,?_,?_,trivial⟩<;>omega
theorem load_5 (x c:Nat) (hx:x<1099511627776) (hc:c<256):qQT (x+c*1099511627776)=[x % 67108864,x/67108864 % 67108864 ||| c*16384 % 67108864,x/4503599627370496 % 67108864 ||| c*16384/67108864,x/302231454903657293676544 % 67108864,x/20282409603651670423947251286016 % 67108864]:=by
 have o1:x/67108864 % 67108864 ||| c*16384 % 67108864=x/67108864 % 67108864+c*16384 % 67108864:=qZE 14 _ _ (c % 4096) (by omega) (by omega)
 have z:x/4503599627370496 % 67108864=0:=by omega
 have o2:x/4503599627370496 % 67108864 ||| c*16384/67108864=c*16384/67108864:=by rw [z,Nat.zero_or]
 rw[o1,o2]
 simp only [qQT,List.cons.injEq]
 refine⟨?_,?_,?_,?_,?_,trivial⟩<;>omega
theorem load_6 (x c:Nat) (hx:x<281474976710656) (hc:c<256):qQT (x+c*281474976710656)=[x % 67108864,x/67108864 % 67108864 ||| c*4194304 % 67108864,x/4503599627370496 % 67108864 ||| c*4194304/67108864,x/302231454903657293676544 % 67108864,x/20282409603651670423947251286016 % 67108864]:=by
 have o1:x/67108864 % 67108864 ||| c*4194304 % 67108864=x/67108864 % 67108864+c*4194304 % 67108864:=qZE 22 _ _ (c % 16) (by omega) (by omega)
 have z:x/4503599627370496 % 67108864=0:=by omega
 have o2:x/4503599627370496 % 67108864 ||| c*4194304/67108864=c*4194304/67108864:=by rw [z,Nat.zero_or]
 rw[o1,o2]
 simp only [qQT,List.cons.injEq]
 refine⟨?_,?_,?_,?_,?_,trivial⟩<;>omega
theorem load_7 (x c:Nat) (hx:x<72057594037927936) (hc:c<256):qQT (x+c*72057594037927936)=[x % 67108864,x/67108864 % 67108864,x/4503599627370496 % 67108864 ||| c*16 % 67108864,x/302231454903657293676544 % 67108864 ||| c*16/67108864,x/20282409603651670423947251286016 % 67108864]:=by
 have o1:x/4503599627370496 % 67108864 ||| c*16 % 67108864=x/4503599627370496 % 67108864+c*16 % 67108864:=qZE 4 _ _ (c % 4194304) (by omega) (by omega)
 have z:x/302231454903657293676544 % 67108864=0:=by omega
 have o2:x/302231454903657293676544 % 67108864 ||| c*16/67108864=c*16/67108864:=by rw [z,Nat.zero_or]
 rw[o1,o2]
 simp only [qQT,List.cons.injEq]
 refine⟨?_,?_,?_,?_,?_,trivial⟩<;>omega
theorem load_8 (x c:Nat) (hx:x<18446744073709551616) (hc:c<256):qQT (x+c*18446744073709551616)=[x % 67108864,x/67108864 % 67108864,x/4503599627370496 % 67108864 ||| c*4096 % 67108864,x/302231454903657293676544 % 67108864 ||| c*4096/67108864,x/20282409603651670423947251286016 % 67108864]:=by
 have o1:x/4503599627370496 % 67108864 ||| c*4096 % 67108864=x/4503599627370496 % 67108864+c*4096 % 67108864:=qZE 12 _ _ (c % 16384) (by omega) (by omega)
 have z:x/302231454903657293676544 % 67108864=0:=by omega
 have o2:x/302231454903657293676544 % 67108864 ||| c*4096/67108864=c*4096/67108864:=by rw [z,Nat.zero_or]
 rw[o1,o2]
 simp only [qQT,List.cons.injEq]
 refine⟨?_,?_,?_,?_,?_,trivial⟩<;>omega
theorem load_9 (x c:Nat) (hx:x<4722366482869645213696) (hc:c<256):qQT (x+c*4722366482869645213696)=[x % 67108864,x/67108864 % 67108864,x/4503599627370496 % 67108864 ||| c*1048576 % 67108864,x/302231454903657293676544 % 67108864 ||| c*1048576/67108864,x/20282409603651670423947251286016 % 67108864]:=by
 have o1:x/4503599627370496 % 67108864 ||| c*1048576 % 67108864=x/4503599627370496 % 67108864+c*1048576 % 67108864:=qZE 20 _ _ (c % 64) (by omega) (by omega)
 have z:x/302231454903657293676544 % 67108864=0:=by omega
 have o2:x/302231454903657293676544 % 67108864 ||| c*1048576/67108864=c*1048576/67108864:=by rw [z,Nat.zero_or]
 rw[o1,o2]
 simp only [qQT,List.cons.injEq]
 refine⟨?_,?_,?_,?_,?_,trivial⟩<;>omega
theorem load_10 (x c:Nat) (hx:x<1208925819614629174706176) (hc:c<256):qQT (x+c*1208925819614629174706176)=[x % 67108864,x/67108864 % 67108864,x/4503599627370496 % 67108864,x/302231454903657293676544 % 67108864 ||| c*4 % 67108864,x/20282409603651670423947251286016 % 67108864 ||| c*4/67108864]:=by
 have o1:x/302231454903657293676544 % 67108864 ||| c*4 % 67108864=x/302231454903657293676544 % 67108864+c*4 % 67108864:=qZE 2 _ _ (c % 16777216) (by omega) (by omega)
 have z:x/20282409603651670423947251286016 % 67108864=0:=by omega
 have o2:x/20282409603651670423947251286016 % 67108864 ||| c*4/67108864=c*4/67108864:=by rw [z,Nat.zero_or]
 rw[o1,o2]
 simp only [qQT,List.cons.injEq]
 refine⟨?_,?_,?_,?_,?_,trivial⟩<;>omega
theorem load_11 (x c:Nat) (hx:x<309485009821345068724781056) (hc:c<256):qQT (x+c*309485009821345068724781056)=[x % 67108864,x/67108864 % 67108864,x/4503599627370496 % 67108864,x/302231454903657293676544 % 67108864 ||| c*1024 % 67108864,x/20282409603651670423947251286016 % 67108864 ||| c*1024/67108864]:=by
 have o1:x/302231454903657293676544 % 67108864 ||| c*1024 % 67108864=x/302231454903657293676544 % 67108864+c*1024 % 67108864:=qZE 10 _ _ (c % 65536) (by omega) (by omega)
 have z:x/20282409603651670423947251286016 % 67108864=0:=by omega
 have o2:x/20282409603651670423947251286016 % 67108864 ||| c*1024/67108864=c*1024/67108864:=by rw [z,Nat.zero_or]
 rw[o1,o2]
 simp only [qQT,List.cons.injEq]
 refine⟨?_,?_,?_,?_,?_,trivial⟩<;>omega
theorem load_12 (x c:Nat) (hx:x<79228162514264337593543950336) (hc:c<256):qQT (x+c*79228162514264337593543950336)=[x % 67108864,x/67108864 % 67108864,x/4503599627370496 % 67108864,x/302231454903657293676544 % 67108864 ||| c*262144 % 67108864,x/20282409603651670423947251286016 % 67108864 ||| c*262144/67108864]:=by
 have o1:x/302231454903657293676544 % 67108864 ||| c*262144 % 67108864=x/302231454903657293676544 % 67108864+c*262144 % 67108864:=qZE 18 _ _ (c % 256) (by omega) (by omega)
 have z:x/20282409603651670423947251286016 % 67108864=0:=by omega
 have o2:x/20282409603651670423947251286016 % 67108864 ||| c*262144/67108864=c*262144/67108864:=by rw [z,Nat.zero_or]
 rw[o1,o2]
 simp only [qQT,List.cons.injEq]
 refine⟨?_,?_,?_,?_,?_,trivial⟩<;>omega
theorem load_13 (x c:Nat) (hx:x<20282409603651670423947251286016) (hc:c<256):qQT (x+c*20282409603651670423947251286016)=[x % 67108864,x/67108864 % 67108864,x/4503599627370496 % 67108864,x/302231454903657293676544 % 67108864,x/20282409603651670423947251286016 % 67108864 ||| c*1 % 67108864]:=by
 have o1:x/20282409603651670423947251286016 % 67108864 ||| c*1 % 67108864=x/20282409603651670423947251286016 % 67108864+c*1 % 67108864:=qZE 0 _ _ (c % 67108864) (by omega) (by omega)
 rw[o1]
 simp only [qQT,List.cons.injEq]
 refine⟨?_,?_,?_,?_,?_,trivial⟩<;>omega
theorem load_14 (x c:Nat) (hx:x<5192296858534827628530496329220096) (hc:c<256):qQT (x+c*5192296858534827628530496329220096)=[x % 67108864,x/67108864 % 67108864,x/4503599627370496 % 67108864,x/302231454903657293676544 % 67108864,x/20282409603651670423947251286016 % 67108864 ||| c*256 % 67108864]:=by
 have o1:x/20282409603651670423947251286016 % 67108864 ||| c*256 % 67108864=x/20282409603651670423947251286016 % 67108864+c*256 % 67108864:=qZE 8 _ _ (c % 262144) (by omega) (by omega)
 rw[o1]
 simp only [qQT,List.cons.injEq]
 refine⟨?_,?_,?_,?_,?_,trivial⟩<;>omega
theorem load_15 (x c:Nat) (hx:x<1329227995784915872903807060280344576) (hc:c<256):qQT (x+c*1329227995784915872903807060280344576)=[x % 67108864,x/67108864 % 67108864,x/4503599627370496 % 67108864,x/302231454903657293676544 % 67108864,x/20282409603651670423947251286016 % 67108864 ||| c*65536 % 67108864]:=by
 have o1:x/20282409603651670423947251286016 % 67108864 ||| c*65536 % 67108864=x/20282409603651670423947251286016 % 67108864+c*65536 % 67108864:=qZE 16 _ _ (c % 1024) (by omega) (by omega)
 rw[o1]
 simp only [qQT,List.cons.injEq]
 refine⟨?_,?_,?_,?_,?_,trivial⟩<;>omega
theorem load_16 (x c:Nat) (hx:x<340282366920938463463374607431768211456) (hc:c<4):qQT (x+c*340282366920938463463374607431768211456)=[x % 67108864,x/67108864 % 67108864,x/4503599627370496 % 67108864,x/302231454903657293676544 % 67108864,x/20282409603651670423947251286016 % 67108864 ||| c*16777216 % 67108864]:=by
 have o1:x/20282409603651670423947251286016 % 67108864 ||| c*16777216 % 67108864=x/20282409603651670423947251286016 % 67108864+c*16777216 % 67108864:=qZE 24 _ _ (c % 4) (by omega) (by omega)
 rw[o1]
 simp only [qQT,List.cons.injEq]
 refine⟨?_,?_,?_,?_,?_,trivial⟩<;>omega
def loadStep (q:List Nat) (i c:Nat):List Nat:=
 let p:=q.set (8*i/26) (q.getD (8*i/26) 0 ||| c*2 ^ (8*i % 26) % 67108864)
 if 8*i/26+1<5 then p.set (8*i/26+1) (p.getD (8*i/26+1) 0 ||| c*2 ^ (8*i % 26)/67108864)else p
theorem load_step (x c i:Nat) (hi:i<17) (hx:x<256 ^ i) (hc:c<256) (h4:i=16→c<4):loadStep (qQT x) i c=qQT (x+c*256 ^ i):=by
 rcases i with _|_|_|_|_|_|_|_|_|_|_|_|_|_|_|_|_|i
 ·exact(load_0 x c hx hc).symm
 ·exact(load_1 x c hx hc).symm
 ·exact(load_2 x c hx hc).symm
 ·exact(load_3 x c hx hc).symm
 ·exact(load_4 x c hx hc).symm
 ·exact(load_5 x c hx hc).symm
 ·exact(load_6 x c hx hc).symm
 ·exact(load_7 x c hx hc).symm
 ·exact(load_8 x c hx hc).symm
 ·exact(load_9 x c hx hc).symm
 ·exact(load_10 x c hx hc).symm
 ·exact(load_11 x c hx hc).symm
 ·exact(load_12 x c hx hc).symm
 ·exact(load_13 x c hx hc).symm
 ·exact(load_14 x c hx hc).symm
 ·exact(load_15 x c hx hc).symm
 ·exact(load_16 x c hx (h4 rfl)).symm
 ·omega
theorem qJv (x:Nat):Bd 67108863 (qQT x):=by
 intro j
 rcases j with _|_|_|_|_|j<;>simp [qQT]<;>omega
theorem qYJ (x:Nat) (h:x<1361129467683753853853498429727072845824):valN (qQT x)=x:=by
 simp only [qQT,valN,List.getD_cons_zero,List.getD_cons_succ]
 omega
end Go.Proofs.YtlocplkjokoknaaGreat
namespace Go.Proofs.YtlocplkjokoknaaGreat
open Go.RowKit
attribute [local go_sem ↓] Go.wp_at_zero Go.wp_at_succ
theorem qZw {l:List Nat} (h:l.length=5):(Tryz.prog.info? 222).map (·.size)=some (WN l).size:=by rw [qZs,h];kernel_rfl
theorem NW.whole {w W W':World} {g:Nat} {l l':List Nat} (h:NW w g l W) (hb:W'.heap[g]?=some (.cells (WN l') 222 (0,0))) (hg:W.grownBy W' (some g)):NW w g l' W':=⟨hb,h.hg,qXO h hg⟩
theorem NW.away {w W W':World} {g k:Nat} {m:List Nat} (h:NW w k m W) (hne:k≠g) (hg:w.heap.size≤g) (hgr:W.grownBy W' (some g)):NW w k m W' where
 b:=qQd hgr (by simp;exact hne) h.b
 hg:=h.hg
 bel:=h.bel.trans (qQi hgr h.bel.size (by rintro k ⟨⟩;exact hg))
theorem nleast_any (n:List Nat) (hn:n.length=5) (bn:Bd 67108868 n) (w:World) :
  Calls Tryz.prog 125 #[.agg (WN n)] w fun e w'=>e=.returned (.agg (WN (qYK n)))∧Below w.heap.size w w':=by
 have HN:=Lh hn
 have BN:=Lh bn
 have Z5':=Lh zero5
 obtain⟨t1,ht1⟩:∃t,t=qZX n:=⟨_,rfl⟩
 obtain⟨t2,ht2⟩:∃t,t=qZX t1:=⟨_,rfl⟩
 have L1:=Lh (show t1.length=5 by rw [ht1,qZe,hn])
 have L2:=Lh (show t2.length=5 by rw [ht2,qZe,L1.out])
 have D1:=Lh (show Bd 4611686018427387904 t1 by rw [ht1];exact carryL_bd n hn (bn.mono (by omega)))
 have D2:=Lh (show Bd 67108863 t2 by
  obtain⟨b0,b1,b2,b3,b4,e,h0,h1,h2,h3,h4⟩:=qKm n hn bn
  rw[ht2,ht1,e]
  intro j
  rcases j with _|_|_|_|_|j<;>simp<;>omega)
 have T1:=Lh ht1
 have T2:=Lh ht2
 have LE:=Lh (show qYK n=if (qZ7 (t2.set 0 (t2.getD 0 0+5)) 4).getD 4 0/67108864=0 then t2 else(qZ7 (t2.set 0 (t2.getD 0 0+5)) 4).set 4 ((qZ7 (t2.set 0 (t2.getD 0 0+5)) 4).getD 4 0 % 67108864) by rw [ht2,ht1];rfl)
 clear hn bn ht1 ht2
 go_enter Tryz.func125,Tryz.ntmps125
 go_upto_region 1 with fail
 rw[←Z5'.out]
 obtain⟨w1,hw1⟩:∃w1,w1=(w.alloc (.cells (WN n) 222)).alloc (.cells (WN Z5) 222):=⟨_,rfl⟩
 have S1:=Lh (show NW w w.heap.size n w1∧NW w (w.heap.size+1) Z5 w1 by
  have hb:Below w.heap.size w w1:=by rw [hw1];exact((Below.refl _ _).alloc (kQh _) _).alloc (by simp) _
  rw[hw1]at hb ⊢
  exact⟨⟨qQM _ _ _ (by simp) (qQk _ _ _ rfl),by omega,hb⟩,⟨qQk _ _ _ (by simp),by omega,hb⟩⟩)
 rw[←hw1]
 clear hw1
 go_wp2_with (refine wpList_load_row rfl 222 (.tmp 1) rfl w.heap.size rfl 222 (WN n) (0,0) _ S1.out.1.b Tryz.underlying222 rfl (qZw HN.out) ?_)
 refine(qVP n HN.out (BN.out.mono (by omega)) _).mono ?_
 rw[←T1.out]
 rintro e w2 ⟨rfl,hb2⟩
 have S2:=Lh (And.intro (S1.out.1.keep hb2) (S1.out.2.keep hb2))
 clear hb2 S1
 go_wp2_with fail
 refine(qVP t1 L1.out D1.out _).mono ?_
 rw[←T2.out]
 rintro e w3 ⟨rfl,hb3⟩
 have S3:=Lh (And.intro (S2.out.1.keep hb3) (S2.out.2.keep hb3))
 clear hb3 S2
 go_upto_region 2 with (refine qQf rfl rfl 222 (.tmp 1) (.tmp 7) rfl w.heap.size (WN t2) rfl rfl 222 _ S3.out.1.b (qZw L2.out) (by rw [qZs,qZs,L2.out,HN.out]) (qVC _) ?_;intro w4 hz4 hg4 hs4)
 have S4:=Lh (show NW w w.heap.size t2 w4∧NW w (w.heap.size+1) Z5 w4 from⟨S3.out.1.whole hz4 hg4,S3.out.2.away (by omega) (kQh _) hg4⟩)
 clear hz4 hg4 hs4 S3
 go_upto_region 3 with (first
  | (refine wpList_load_row rfl 222 (.tmp 1) rfl w.heap.size rfl 222 (WN t2) (0,0) _ S4.out.1.b Tryz.underlying222 rfl (qZw L2.out) ?_)
  | (refine qQp rfl rfl 222 (.tmp 3) (.tmp 8) rfl (WN t2) rfl rfl (qZw L2.out) ?c1 (qVC _) ?_))
 case c1=>rw [qZs,L2.out];rfl
 obtain⟨M,hM⟩:∃M,M=w4.heap.size:=⟨_,rfl⟩
 rw[←hM]
 obtain⟨w5,hw5⟩:∃w5,w5=w4.alloc (.cells (WN t2) 222):=⟨_,rfl⟩
 have hbel:Below w4.heap.size w4 w5:=by rw [hw5];exact(Below.refl _ _).alloc (kQh _) _
 have S5:=Lh (show NW w w.heap.size t2 w5∧NW w (w.heap.size+1) Z5 w5∧NW w M t2 w5 from⟨S4.out.1.keep hbel,S4.out.2.keep hbel,by rw [hw5];exact qQk _ _ _ hM,by rw [hM];exact S4.out.1.bel.size,(S4.out.1.keep hbel).bel⟩)
 have HM:=Lh (show w.heap.size+1<M by rw [hM];exact qQe S4.out.2.b)
 rw[←hw5]
 clear hbel hw5 hM S4
 obtain⟨x,hx⟩:∃x,x=t2.getD 0 0:=⟨_,rfl⟩
 have a1:=qQg S5.out.2.2.b 0 (qXe _ 0 (by rw [L2.out];omega))
 have f1:=qQz S5.out.2.2.b 0
 rw[←hx]at a1
 have b1:(x:Int)≤67108863:=by have:=D2.out 0;omega
 have X:=Lh hx
 clear hx
 go_upto_region 4 with fail
 clear a1 f1
 obtain⟨z,hz⟩:∃z:Nat,z=x+5:=⟨_,rfl⟩
 rw[show(x:Int)+5=(z:Int) by omega]
 obtain⟨m,hm0⟩:∃m,m=t2.set 0 z:=⟨_,rfl⟩
 obtain⟨w6,hw6⟩:∃w6,w6=w5.setCell ⟨M,0,none⟩ (.int .u64 (z:Int)):=⟨_,rfl⟩
 have hm:m=t2.set 0 (x+5):=by rw [hm0,hz]
 have S6:=Lh (show NW w w.heap.size t2 w6∧NW w (w.heap.size+1) Z5 w6∧NW w M (qZ7 m 0) w6 by
  rw[hw6,qZ7,hm0]
  have:=HM.out
  exact⟨S5.out.1.other (by omega) (by omega) _ _,S5.out.2.1.other (by omega) (by omega) _ _,S5.out.2.2.set _ _⟩)
 have ML:=Lh (show m.length=5 by rw [hm,List.length_set,L2.out])
 have MB:=Lh (show ∀i,i≤4→Bd 134217800 (qZ7 m i) by
  obtain⟨c0,c1,c2,c3,c4,hc⟩:=list5 t2 L2.out
  rw[hm,X.out,hc]
  have d:=D2.out
  rw[hc]at d
  have d0:=d 0
  have d1:=d 1
  have d2:=d 2
  have d3:=d 3
  have d4:=d 4
  simp at d0 d1 d2 d3 d4
  intro i hi j
  rcases i with _|_|_|_|_|i
  ·rcases j with _|_|_|_|_|j<;>simp [qZ7]<;>omega
  ·rcases j with _|_|_|_|_|j<;>simp [qZ7]<;>omega
  ·rcases j with _|_|_|_|_|j<;>simp [qZ7]<;>omega
  ·rcases j with _|_|_|_|_|j<;>simp [qZ7]<;>omega
  ·rcases j with _|_|_|_|_|j<;>simp [qZ7]<;>omega
  ·omega)
 have MM:=Lh (show m=t2.set 0 (t2.getD 0 0+5) by rw [hm,X.out])
 rw[←hw6]
 clear hw6 hm hm0 hz S5 b1
 go_wp2_with fail
 go_loopw [13] (fun u wr=>∃i:Nat,i≤4∧u=.int .i64 (i:Int)∧NW w w.heap.size t2 wr∧NW w (w.heap.size+1) Z5 wr∧NW w M (qZ7 m i) wr) (fun u _=>4-(intOf u).toNat)
 case atStart=>exact⟨0,by omega,rfl,S6.out⟩
 case round=>
  obtain⟨i,hi,rfl,hs⟩:=hrel
  have I:=Lh hi
  have S7:=Lh hs
  clear hi hs S6
  by_cases hlt:i<4
  ·have hD:decide ((i:Int)<4)=true:=by simp;omega
   obtain⟨q,hq⟩:∃q,q=qZ7 m i:=⟨_,rfl⟩
   rw[←hq]at S7
   have QL:=Lh (show q.length=5 by rw [hq,qJw,ML.out])
   have QB:=Lh (show Bd 134217800 q by rw [hq];exact MB.out i I.out)
   have QQ:=Lh hq
   obtain⟨x,hx⟩:∃x,x=q.getD i 0:=⟨_,rfl⟩
   obtain⟨y,hy⟩:∃y,y=q.getD (i+1) 0:=⟨_,rfl⟩
   have hxb:x≤134217800:=by rw [hx];exact QB.out i
   have hyb:y≤134217800:=by rw [hy];exact QB.out (i+1)
   have a1:=qQg S7.out.2.2.b i (qXe _ i (by rw [QL.out];omega))
   have a2:=qQg S7.out.2.2.b (i+1) (qXe _ (i+1) (by rw [QL.out];omega))
   have f2:=qQz S7.out.2.2.b (i+1)
   rw[←hx]at a1
   rw[←hy]at a2
   have X':=Lh hx
   have Y:=Lh hy
   have A1:=Lh a1
   have b1:(i:Int)<5:=by omega
   have b2:(i:Int)+1<5:=by omega
   have b0:(0:Int)≤(i:Int)+1:=by omega
   have e0:=qKA ((i:Int)+1) (by omega)
   have e3:((i:Int)+1).toNat=i+1:=by omega
   have e2:=wrap_u64 (y+x/67108864) (by omega)
   rw[Int.natCast_add,Int.natCast_ediv]at e2
   have c26:((67108864:Nat):Int)=67108864:=rfl
   rw[c26]at e2
   clear hq hx hy c26
   go_upto_region 7 with fail
   clear a1
   refine qZl (fun W=>W.cell? ⟨M,i,none⟩=some (.int .u64 (x:Int))) [0,1,2,4,5,6,7] [3,8,9,10] (by kernel_rfl) (by kernel_rfl) (fun _ _ d _ _ h=>by cases d<;>exact h) A1.out ?_
   simp only [kQl,kQm,kQd,kQg,kQe]
   refine qQm (by rfl) (fun W hW=>by go_simp;rfl) ?_
   simp only [Act.put,pq1,pq2,pq3]
   refine qQm (by rfl) (fun W hW=>by go_simp;rfl) ?_
   simp only [Act.put,pq1,pq2,pq3]
   refine qQm (by rfl) (fun W hW=>by go_simp;rfl) ?_
   simp only [Act.put,pq1,pq2,pq3]
   refine qQm (by rfl) (fun W hW=>by go_simp;rfl) ?_
   simp only [Act.put,pq1,pq2,pq3]
   refine qQm (by rfl) (fun W hW=>by go_simp;rfl) ?_
   simp only [Act.put,pq1,pq2,pq3]
   refine qQm (by rfl) (fun W hW=>qQq 36 (.tmp 21) rfl _ Tryz.underlying36 rfl rfl hW) ?_
   simp only [Act.put,pq1,pq2,pq3]
   refine qQm (by rfl) (fun W hW=>by go_simp;rfl) ?_
   simp only [Act.put,pq1,pq2,pq3]
   refine qXE ?_
   refine qZu (by rfl) A1.out (qQq 36 (.tmp 18) rfl _ Tryz.underlying36 rfl rfl a2) ?_
   simp only [Act.put,pq1,pq2,pq3]
   refine qZu (by rfl) A1.out (by go_simp;rfl) ?_
   simp only [Act.put,pq1,pq2,pq3]
   refine qZu (by rfl) A1.out (by go_simp;rfl) ?_
   simp only [Act.put,pq1,pq2,pq3]
   refine qXi (by rfl) (fun K hK=>?_)
   go_simp
   obtain⟨p,hp⟩:∃p,p=q.set (i+1) (y+x/67108864):=⟨_,rfl⟩
   rw[show(y:Int)+(x:Int)/67108864=((y+x/67108864:Nat):Int) by omega]
   have S8:=Lh (show NW w w.heap.size t2 (wr.setCell ⟨M,i+1,none⟩ (.int .u64 ((y+x/67108864:Nat):Int))).drew∧NW w (w.heap.size+1) Z5 (wr.setCell ⟨M,i+1,none⟩ (.int .u64 ((y+x/67108864:Nat):Int))).drew∧NW w M p (wr.setCell ⟨M,i+1,none⟩ (.int .u64 ((y+x/67108864:Nat):Int))).drew by
    have:=HM.out
    rw[hp]
    exact⟨(S7.out.1.other (by omega) (by omega) _ _).drew,(S7.out.2.1.other (by omega) (by omega) _ _).drew,(S7.out.2.2.set _ _).drew⟩)
   have PL:=Lh (show p.length=5 by rw [hp,List.length_set,QL.out])
   have PX:=Lh (show p.getD i 0=x by rw [hp,qKw,if_neg (by omega),X'.out])
   have PP:=Lh hp
   clear hp
   have A2:=qQg S8.out.2.2.b i (qXe _ i (by rw [PL.out];omega))
   rw[PX.out]at A2
   refine hK.out _ _ (A2) ?_
   clear hK K
   refine qXD ?_
   obtain⟨w8,hw8⟩:∃w8,w8=(wr.setCell ⟨M,i+1,none⟩ (.int .u64 ((y+x/67108864:Nat):Int))).drew:=⟨_,rfl⟩
   rw[←hw8]at S8 A2 ⊢
   clear hw8 a2 f2 e0 e2 e3
   have f1:=qQz S8.out.2.2.b i
   have e1:=mask26 x (by omega)
   go_wp2_with fail
   go_roundw
   case rel=>
    refine⟨i+1,by omega,by go_num,?_⟩
    have:=HM.out
    rw[show(x:Int) % 67108864=((x % 67108864:Nat):Int) by omega]
    rw[qZ7,←QQ.out,←X'.out,←Y.out,←PP.out]
    exact⟨S8.out.1.other (by omega) (by omega) _ _,S8.out.2.1.other (by omega) (by omega) _ _,S8.out.2.2.set _ _⟩
   case measure=>simp [intOf];omega
  ·have hi:Hid (i=4):=show i=4 by have:=I.out;omega
   have hD:decide ((i:Int)<4)=false:=by simp;omega
   obtain⟨q,hq⟩:∃q,q=qZ7 m 4:=⟨_,rfl⟩
   have S8:=Lh (show NW w w.heap.size t2 wr∧NW w (w.heap.size+1) Z5 wr∧NW w M q wr by have:=S7.out;rw [hi.out,←hq]at this;exact this)
   have QL:=Lh (show q.length=5 by rw [hq,qJw,ML.out])
   have QB:=Lh (show Bd 134217800 q by rw [hq];exact MB.out 4 (by omega))
   obtain⟨y,hy⟩:∃y,y=q.getD 4 0:=⟨_,rfl⟩
   have hyb:y≤134217800:=by rw [hy];exact QB.out 4
   have LF:=Lh (show qYK n=if y/67108864=0 then t2 else q.set 4 (y % 67108864) by rw [LE.out,←MM.out,←hq,←hy])
   have a1:=qQg S8.out.2.2.b 4 (qXe _ 4 (by rw [QL.out];omega))
   have f1:=qQz S8.out.2.2.b 4
   rw[←hy]at a1
   have e1:=mask26 y (by omega)
   clear hq hy S7
   by_cases hc:y/67108864=0
   ·have hE:((y:Int)/67108864==0)=true:=by simp;omega
    go_wp2_with (first
     | (refine wpList_load_row rfl 222 (.tmp 1) rfl w.heap.size rfl 222 (WN t2) (0,0) _ S8.out.1.b Tryz.underlying222 rfl (qZw L2.out) ?_)
     | (refine qQf rfl rfl 222 (.tmp 2) (.tmp 36) rfl (w.heap.size+1) (WN t2) rfl rfl 222 _ S8.out.2.1.b (qZw L2.out) (by rw [qZs,qZs,L2.out];rfl) (qVC _) ?_;intro w8 hz8 hg8 _))
    exact bodyPost_ret (results_cell_row rfl _ _ (w.heap.size+1) 222 (WN t2) (0,0) _ rfl hz8 Tryz.underlying222 rfl (qZw L2.out)) rfl ⟨by rw [LF.out,if_pos hc],qXO S8.out.2.1 hg8⟩
   ·have hE:((y:Int)/67108864==0)=false:=by simp;omega
    go_upto_region 13 with fail
    clear a1 f1 e1 hE
    rw[show(y:Int) % 67108864=((y % 67108864:Nat):Int) by omega]
    obtain⟨p,hp⟩:∃p,p=q.set 4 (y % 67108864):=⟨_,rfl⟩
    obtain⟨w9,hw9⟩:∃w9,w9=wr.setCell ⟨M,4,none⟩ (.int .u64 ((y % 67108864:Nat):Int)):=⟨_,rfl⟩
    have S9:=Lh (show NW w (w.heap.size+1) Z5 w9∧NW w M p w9 by
     have:=HM.out
     rw[hw9,hp]
     exact⟨S8.out.2.1.other (by omega) (by omega) _ _,S8.out.2.2.set _ _⟩)
    rw[←hw9]
    have PL:=Lh (show p.length=5 by rw [hp,List.length_set,QL.out])
    have PP:=Lh hp
    clear hw9 hp S8
    go_wp2_with (first
     | (refine wpList_load_row rfl 222 (.tmp 3) rfl M rfl 222 (WN p) (0,0) _ S9.out.2.b Tryz.underlying222 rfl (qZw PL.out) ?_)
     | (refine qQf rfl rfl 222 (.tmp 2) (.tmp 41) rfl (w.heap.size+1) (WN p) rfl rfl 222 _ S9.out.1.b (qZw PL.out) (by rw [qZs,qZs,PL.out];rfl) (qVC _) ?_;intro w8 hz8 hg8 _))
    exact bodyPost_ret (results_cell_row rfl _ _ (w.heap.size+1) 222 (WN p) (0,0) _ rfl hz8 Tryz.underlying222 rfl (qZw PL.out)) rfl ⟨by rw [LF.out,if_neg hc,PP.out],qXO S9.out.1 hg8⟩
theorem or64 (x y:Nat) (hx:x<18446744073709551616) (hy:y<18446744073709551616):bits .or .u64 (x:Int) (y:Int)=((x ||| y:Nat):Int):=u64_or_nat x y hx hy
theorem nload_any (A:Option Addr) (n c:Nat) (l:List UInt8) (hn:l.length=n) (h17:n≤17) (h4:n=17→(l.getD 16 0).toNat<4) (w:World) (hR:RdB w A l) :
  Calls Tryz.prog 122 #[.slice A n c] w fun e w'=>e=.returned (.agg (WN (qQT (qZv l))))∧Below w.heap.size w w':=by
 have HN:=Lh hn
 have H4:=Lh h4
 have HR:=Lh hR
 have Z5':=Lh zero5
 clear hn h4 hR
 go_enter Tryz.func122,Tryz.ntmps122
 go_wp2_with fail
 rw[←Z5'.out]
 obtain⟨w1,hw1⟩:∃w1,w1=(w.alloc (.cells (WN Z5) 222)).alloc (.cells (WN Z5) 222):=⟨_,rfl⟩
 have S1:=Lh (show NW w w.heap.size Z5 w1∧NW w (w.heap.size+1) (qQT (qZv (l.take 0))) w1 by
  have hb:Below w.heap.size w w1:=by rw [hw1];exact((Below.refl _ _).alloc (kQh _) _).alloc (by simp) _
  rw[hw1]at hb ⊢
  rw[show qQT (qZv (l.take 0))=Z5 by rw [List.take_zero];rfl]
  exact⟨⟨qQM _ _ _ (by simp) (qQk _ _ _ rfl),by omega,hb⟩,⟨qQk _ _ _ (by simp),by omega,hb⟩⟩)
 rw[←hw1]
 clear hw1
 go_loopw [12] (fun u wr=>∃i:Nat,i≤n∧u=.int .i64 (i:Int)∧NW w w.heap.size Z5 wr∧NW w (w.heap.size+1) (qQT (qZv (l.take i))) wr) (fun u _=>n-(intOf u).toNat)
 case atStart=>exact⟨0,by omega,rfl,S1.out⟩
 case round=>
  obtain⟨i,hi,rfl,hs⟩:=hrel
  have I:=Lh hi
  have S2:=Lh hs
  clear hi hs S1
  by_cases hlt:i<n
  ·have hD:decide ((i:Int)<(n:Int))=true:=by simp;omega
   obtain⟨X,hX⟩:∃X,X=qZv (l.take i):=⟨_,rfl⟩
   rw[←hX]at S2
   have XX:=Lh hX
   have XB:=Lh (show X<256 ^ i by rw [hX];have:=qW5 (l.take i);rw [kQp,HN.out,Nat.min_eq_left (by omega)]at this;exact this)
   obtain⟨b,o,rfl,y,hy,hcell⟩:=(HR.out.keep S2.out.1.bel).get i (by rw [HN.out];exact hlt)
   obtain⟨k,hk⟩:∃k,k=8*i/26:=⟨_,rfl⟩
   obtain⟨s,hs⟩:∃s,s=8*i % 26:=⟨_,rfl⟩
   have i17:i<17:=by omega
   have b1:(i:Int)≤16:=by omega
   have e1:8*(i:Int)/26=(k:Int):=by omega
   have e2:8*(i:Int) % 26=(s:Int):=by omega
   have k4:k<5:=by omega
   have s26:s<26:=by omega
   have K:=Lh hk
   have S:=Lh hs
   obtain⟨V,hV⟩:∃V,V=y.toNat*2 ^ s:=⟨_,rfl⟩
   have yb:=y.toNat_lt
   have sp:2 ^ s≤2 ^ 25:=Nat.pow_le_pow_right (by omega) (by omega)
   have vb:V≤8589934592:=by rw [hV];have:=Nat.mul_le_mul (show y.toNat≤256 by omega) sp;omega
   have e3:IntKind.u64.wrap (y.toNat:Int)=(y.toNat:Int):=wrap_u64 _ (by omega)
   have e4:IntKind.u64.wrap ((y.toNat:Int)*2 ^ s)=(V:Int):=by
    have:((y.toNat:Int)*2 ^ s)=(V:Int):=by rw [hV,Int.natCast_mul,Int.natCast_pow];rfl
    rw[this];exact wrap_u64 _ (by omega)
   have VV:=Lh hV
   have E1:=Lh e1
   have E2:=Lh e2
   clear hX hk hs hV sp yb
   go_upto_region 8 with fail
   rw[E1.out,E2.out]
   clear hcell e1 e2 e3 e4
   obtain⟨q,hq⟩:∃q,q=qQT X:=⟨_,rfl⟩
   rw[←hq]at S2
   have QL:=Lh (show q.length=5 by rw [hq];rfl)
   have QB:=Lh (show Bd 67108863 q by rw [hq];exact qJv X)
   obtain⟨x,hx⟩:∃x,x=q.getD k 0:=⟨_,rfl⟩
   have xb:x≤67108863:=by rw [hx];exact QB.out k
   have a1:=qQg S2.out.2.b k (qXe _ k (by rw [QL.out];omega))
   have f1:=qQz S2.out.2.b k
   rw[←hx]at a1
   obtain⟨P,hP⟩:∃P,P=x ||| V % 67108864:=⟨_,rfl⟩
   have e5:bits .or .u64 (x:Int) ((V:Int) % 67108864)=(P:Int):=by
    have h:=or64 x (V % 67108864) (by omega) (by omega)
    rw[←hP]at h
    rw[←h]
    rfl
   have e6:=mask26 V (by omega)
   have b2:(k:Int)<5:=by omega
   have Q:=Lh hq
   have XQ:=Lh hx
   have PP:=Lh hP
   clear hq hx hP
   go_upto_region 9 with fail
   clear a1 f1 e5 e6
   obtain⟨p,hp⟩:∃p,p=q.set k P:=⟨_,rfl⟩
   obtain⟨w2,hw2⟩:∃w2,w2=wr.setCell ⟨w.heap.size+1,k,none⟩ (.int .u64 (P:Int)):=⟨_,rfl⟩
   have S3:=Lh (show NW w w.heap.size Z5 w2∧NW w (w.heap.size+1) p w2 by rw [hw2,hp];exact⟨S2.out.1.other (by omega) (by omega) _ _,S2.out.2.set _ _⟩)
   rw[←hw2]
   have PL:=Lh (show p.length=5 by rw [hp,List.length_set,QL.out])
   have PS:=Lh hp
   have LS:=Lh (show qQT (qZv (l.take (i+1)))=if k+1<5 then p.set (k+1) (p.getD (k+1) 0 ||| V/67108864)else p by
    have h:=load_step X y.toNat i i17 XB.out y.toNat_lt (fun e=>by have:=H4.out (by omega);rw [e]at hy;rw [hy.out];exact this)
    rw[qYO l i (by rw [HN.out];exact hlt),←XX.out,←hy.out,←h,loadStep,←K.out,←S.out,←Q.out,←VV.out,←XQ.out,←PP.out,←PS.out])
   clear hw2 hp
   by_cases h5:k+1<5
   ·have hE:decide ((k:Int)+1<5)=true:=by simp;omega
    obtain⟨z,hz⟩:∃z,z=p.getD (k+1) 0:=⟨_,rfl⟩
    have zb:z≤67108863:=by rw [hz,PS.out,qKw,if_neg (by omega)];exact QB.out _
    have a2:=qQg S3.out.2.b (k+1) (qXe _ (k+1) (by rw [PL.out];exact h5))
    have f2:=qQz S3.out.2.b (k+1)
    rw[←hz]at a2
    obtain⟨R,hRr⟩:∃R,R=z ||| V/67108864:=⟨_,rfl⟩
    have e5:bits .or .u64 (z:Int) ((V:Int)/67108864)=(R:Int):=by
     have h:=or64 z (V/67108864) (by omega) (by omega)
     rw[←hRr]at h
     rw[←h]
     rfl
    have b3:(k:Int)+1<5:=by omega
    have e7:((k:Int)+1).toNat=k+1:=by omega
    have ZZ:=Lh hz
    have RR:=Lh hRr
    clear hz hRr
    go_wp2_with fail
    go_roundw
    case rel=>
     refine⟨i+1,by omega,by go_num,?_⟩
     rw[LS.out,if_pos h5,←ZZ.out,←RR.out]
     exact⟨S3.out.1.other (by omega) (by omega) _ _,S3.out.2.set _ _⟩
    case measure=>simp [intOf];omega
   ·have hE:decide ((k:Int)+1<5)=false:=by simp;omega
    go_wp2_with fail
    go_roundw
    case rel=>
     refine⟨i+1,by omega,by go_num,?_⟩
     rw[LS.out,if_neg h5]
     exact S3.out
    case measure=>simp [intOf];omega
  ·have hi:Hid (i=n):=show i=n by have:=I.out;omega
   have hD:decide ((i:Int)<(n:Int))=false:=by simp;omega
   obtain⟨L,hL⟩:∃L,L=qQT (qZv (l.take i)):=⟨_,rfl⟩
   rw[←hL]at S2
   have LL:=Lh (show L.length=5 by rw [hL];rfl)
   have HLL:=Lh (show L=qQT (qZv l) by rw [hL,hi.out,←HN.out,List.take_length])
   clear hL
   go_wp2_with (first
    | (refine wpList_load_row rfl 222 (.tmp 3) rfl (w.heap.size+1) rfl 222 (WN L) (0,0) _ S2.out.2.b Tryz.underlying222 rfl (qZw LL.out) ?_)
    | (refine qQf rfl rfl 222 (.tmp 2) (.tmp 46) rfl w.heap.size (WN L) rfl rfl 222 _ S2.out.1.b (qZw LL.out) (by rw [qZs,qZs,LL.out];rfl) (qVC _) ?_;intro w8 hz8 hg8 _))
   exact bodyPost_ret (results_cell_row rfl _ _ w.heap.size 222 (WN L) (0,0) _ rfl hz8 Tryz.underlying222 rfl (qZw LL.out)) rfl ⟨by rw [HLL.out],qXO S2.out.1 hg8⟩
end Go.Proofs.YtlocplkjokoknaaGreat
namespace Go.Proofs.YtlocplkjokoknaaGreat
open Go.RowKit
def qVy (b:List UInt8):Nat→List UInt8
 | 0=>b
 | t+1=>
  let q:=(qVy b t).set (3+4*t) ((qVy b t).getD (3+4*t) 0 &&& 15)
  if 3+4*t+1<16 then q.set (3+4*t+1) (q.getD (3+4*t+1) 0 &&& 252)else q
theorem qJL (b:List UInt8) (t:Nat):(qVy b t).length=b.length:=by
 induction t with
 | zero=>rfl
 | succ t ih=>rw [qVy];split<;>simp [ih]
def qV0 (b:List UInt8):List UInt8:=qVy b 4
theorem qJK (b:List UInt8):(qV0 b).length=b.length:=qJL b 4
theorem list16:∀(v:List UInt8),v.length=16→∃a b c d e f g h i j k l m n o p,v=[a,b,c,d,e,f,g,h,i,j,k,l,m,n,o,p]
 | [a,b,c,d,e,f,g,h,i,j,k,l,m,n,o,p],_=>⟨a,b,c,d,e,f,g,h,i,j,k,l,m,n,o,p,rfl⟩
theorem clampL_form (a b c d e f g h i j k l m n o p:UInt8):qV0 [a,b,c,d,e,f,g,h,i,j,k,l,m,n,o,p]=[a,b,c,d &&& 15,e &&& 252,f,g,h &&& 15,i &&& 252,j,k,l &&& 15,m &&& 252,n,o,p &&& 15]:=rfl
theorem leNat_lt16 (b:List UInt8) (h:b.length=16):qZv b<340282366920938463463374607431768211456:=by
 have:=qW5 b
 rw[h]at this
 exact this
def qKS (r:Nat):Nat→Nat→List UInt8→Nat
 | 0,a,_=>a
 | f+1,a,l=>if l=[]then a else qKS r f ((a+qZv (l.take 16++[1]))*r % PN) (l.drop 16)
theorem qYA (r:Nat):∀(f g a:Nat) (l:List UInt8),l.length≤f→l.length≤g→qKS r f a l=qKS r g a l
 | 0,0,a,l,_,_=>rfl
 | 0,g+1,a,l,h,_=>by
  obtain rfl:l=[]:=List.eq_nil_of_length_eq_zero (by omega)
  rw[qKS,qKS,if_pos rfl]
 | f+1,0,a,l,_,h=>by
  obtain rfl:l=[]:=List.eq_nil_of_length_eq_zero (by omega)
  rw[qKS,qKS,if_pos rfl]
 | f+1,g+1,a,l,h,h'=>by
  rw[qKS,qKS]
  split
  ·rfl
  ·rename_i h0
   have:=List.length_pos_iff.2 h0
   exact qYA r f g _ _ (by rw [kQv];omega) (by rw [kQv];omega)
def qVV (r a:Nat) (l:List UInt8):Nat:=qKS r l.length a l
theorem polyA_nil (r a:Nat):qVV r a []=a:=rfl
theorem qYB (r a:Nat) (l:List UInt8) (h:l≠[]):qVV r a l=qVV r ((a+qZv (l.take 16++[1]))*r % PN) (l.drop 16):=by
 have:=List.length_pos_iff.2 h
 unfold qVV
 obtain⟨n,hn⟩:∃n,l.length=n+1:=⟨l.length-1,by omega⟩
 rw[hn,qKS,if_neg h]
 exact qYA r n _ _ _ (by rw [kQv];omega) (kQh _)
def qWw (x:Nat):List UInt8:=(List.range 16).map fun j=>UInt8.ofNat (x/256 ^ j)
theorem qW9 (x:Nat):(qWw x).length=16:=by simp [qWw]
theorem qYS (x j:Nat) (h:j<16):(qWw x).getD j 0=UInt8.ofNat (x/256 ^ j):=by
 rw[qWw,kQa,List.getElem?_map,List.getElem?_range h]
 rfl
def tagN (x:Nat) (s:List UInt8):Nat:=x % 340282366920938463463374607431768211456+qZv s
def tagK (x:Nat) (s:List UInt8) (i:Nat):Nat:=x % 256 ^ i+qZv (s.take i)
theorem tagK_all (x:Nat) (s:List UInt8) (h:s.length=16):tagK x s 16=tagN x s:=by
 unfold tagK tagN
 rw[kQn (by omega)]
theorem tagK_step (x:Nat) (s:List UInt8) (i:Nat) (hi:i<s.length):tagK x s (i+1)=tagK x s i+(x/256 ^ i % 256+(s.getD i 0).toNat)*256 ^ i:=by
 unfold tagK
 rw[qYO s i hi,Nat.pow_succ,Nat.mod_mul,Nat.add_mul,Nat.mul_comm (256 ^ i) (x/256 ^ i % 256)]
 omega
theorem tagK_div (x:Nat) (s:List UInt8) (i:Nat) (hi:i<s.length):tagK x s (i+1)/256 ^ i=tagK x s i/256 ^ i+(x/256 ^ i % 256+(s.getD i 0).toNat):=by
 rw[tagK_step x s i hi,Nat.add_mul_div_right _ _ (Nat.pow_pos (by omega))]
theorem tagK_next (x:Nat) (s:List UInt8) (i:Nat) (hi:i<s.length):tagK x s (i+1)/256 ^ (i+1)=(tagK x s i/256 ^ i+(x/256 ^ i % 256+(s.getD i 0).toNat))/256:=by
 rw[←tagK_div x s i hi,Nat.div_div_eq_div_mul,Nat.pow_succ]
theorem tagK_byte (x:Nat) (s:List UInt8) (i:Nat):∀(j:Nat),i<j→j≤s.length→tagK x s j/256 ^ i % 256=tagK x s (i+1)/256 ^ i % 256
 | 0,h,_=>by omega
 | j+1,h,hl=>by
  by_cases e:j=i
  ·rw [e]
  ·rw [←tagK_byte x s i j (by omega) (by omega),tagK_step x s j (by omega)]
   obtain⟨k,hk⟩:∃k,j=i+(k+1):=⟨j-i-1,by omega⟩
   obtain⟨q,hq⟩:∃q,q=x/256 ^ j % 256+(s.getD j 0).toNat:=⟨_,rfl⟩
   rw[←hq,hk,Nat.pow_add,Nat.pow_succ,show q*(256 ^ i*(256 ^ k*256))=256 ^ i*(q*256 ^ k*256) by rw [Nat.mul_left_comm,Nat.mul_assoc],Nat.add_mul_div_left _ _ (Nat.pow_pos (by omega)),Nat.add_mul_mod_self_right]
theorem tag_byte (x:Nat) (s:List UInt8) (h:s.length=16) (i:Nat) (hi:i<16):(qWw (tagN x s)).getD i 0=UInt8.ofNat (tagK x s i/256 ^ i+(x/256 ^ i % 256+(s.getD i 0).toNat)):=by
 rw[qYS _ _ hi,←tagK_all x s h,←tagK_div x s i (by omega)]
 apply UInt8.toNat_inj.1
 simp only [UInt8.toNat_ofNat',Nat.reducePow]
 exact tagK_byte x s i 16 (by omega) (by omega)
theorem tagK_small (x:Nat) (s:List UInt8) (i:Nat) (hi:i≤s.length):tagK x s i/256 ^ i≤1:=by
 have h1:x % 256 ^ i<256 ^ i:=Nat.mod_lt _ (Nat.pow_pos (by omega))
 have h2:=qW5 (s.take i)
 rw[kQp,Nat.min_eq_left hi]at h2
 have h3:tagK x s i<256 ^ i*2:=by unfold tagK;omega
 have:=Nat.div_lt_of_lt_mul h3
 omega
def polyL (key b:List UInt8):List UInt8:=qWw (tagN (qVV (qZv (qV0 (key.take 16))) 0 b) (key.drop 16))
theorem polyL_length (key b:List UInt8):(polyL key b).length=16:=qW9 _
theorem out_0 (x:Nat):((x % 67108864)/1 ||| (x/67108864 % 67108864)*67108864) % 256=x/1 % 256:=by
 rw[qZE 26 _ _ (x/67108864 % 67108864) (by omega) (by omega)]
 omega
theorem out_1 (x:Nat):((x % 67108864)/256 ||| (x/67108864 % 67108864)*262144) % 256=x/256 % 256:=by
 rw[qZE 18 _ _ (x/67108864 % 67108864) (by omega) (by omega)]
 omega
theorem out_2 (x:Nat):((x % 67108864)/65536 ||| (x/67108864 % 67108864)*1024) % 256=x/65536 % 256:=by
 rw[qZE 10 _ _ (x/67108864 % 67108864) (by omega) (by omega)]
 omega
theorem out_3 (x:Nat):((x % 67108864)/16777216 ||| (x/67108864 % 67108864)*4) % 256=x/16777216 % 256:=by
 rw[qZE 2 _ _ (x/67108864 % 67108864) (by omega) (by omega)]
 omega
theorem out_4 (x:Nat):((x/67108864 % 67108864)/64 ||| (x/4503599627370496 % 67108864)*1048576) % 256=x/4294967296 % 256:=by
 rw[qZE 20 _ _ (x/4503599627370496 % 67108864) (by omega) (by omega)]
 omega
theorem out_5 (x:Nat):((x/67108864 % 67108864)/16384 ||| (x/4503599627370496 % 67108864)*4096) % 256=x/1099511627776 % 256:=by
 rw[qZE 12 _ _ (x/4503599627370496 % 67108864) (by omega) (by omega)]
 omega
theorem out_6 (x:Nat):((x/67108864 % 67108864)/4194304 ||| (x/4503599627370496 % 67108864)*16) % 256=x/281474976710656 % 256:=by
 rw[qZE 4 _ _ (x/4503599627370496 % 67108864) (by omega) (by omega)]
 omega
theorem out_7 (x:Nat):((x/4503599627370496 % 67108864)/16 ||| (x/302231454903657293676544 % 67108864)*4194304) % 256=x/72057594037927936 % 256:=by
 rw[qZE 22 _ _ (x/302231454903657293676544 % 67108864) (by omega) (by omega)]
 omega
theorem out_8 (x:Nat):((x/4503599627370496 % 67108864)/4096 ||| (x/302231454903657293676544 % 67108864)*16384) % 256=x/18446744073709551616 % 256:=by
 rw[qZE 14 _ _ (x/302231454903657293676544 % 67108864) (by omega) (by omega)]
 omega
theorem out_9 (x:Nat):((x/4503599627370496 % 67108864)/1048576 ||| (x/302231454903657293676544 % 67108864)*64) % 256=x/4722366482869645213696 % 256:=by
 rw[qZE 6 _ _ (x/302231454903657293676544 % 67108864) (by omega) (by omega)]
 omega
theorem out_10 (x:Nat):((x/302231454903657293676544 % 67108864)/4 ||| (x/20282409603651670423947251286016 % 67108864)*16777216) % 256=x/1208925819614629174706176 % 256:=by
 rw[qZE 24 _ _ (x/20282409603651670423947251286016 % 67108864) (by omega) (by omega)]
 omega
theorem out_11 (x:Nat):((x/302231454903657293676544 % 67108864)/1024 ||| (x/20282409603651670423947251286016 % 67108864)*65536) % 256=x/309485009821345068724781056 % 256:=by
 rw[qZE 16 _ _ (x/20282409603651670423947251286016 % 67108864) (by omega) (by omega)]
 omega
theorem out_12 (x:Nat):((x/302231454903657293676544 % 67108864)/262144 ||| (x/20282409603651670423947251286016 % 67108864)*256) % 256=x/79228162514264337593543950336 % 256:=by
 rw[qZE 8 _ _ (x/20282409603651670423947251286016 % 67108864) (by omega) (by omega)]
 omega
theorem out_13 (x:Nat):((x/20282409603651670423947251286016 % 67108864)/1) % 256=x/20282409603651670423947251286016 % 256:=by
 omega
theorem out_14 (x:Nat):((x/20282409603651670423947251286016 % 67108864)/256) % 256=x/5192296858534827628530496329220096 % 256:=by
 omega
theorem out_15 (x:Nat):((x/20282409603651670423947251286016 % 67108864)/65536) % 256=x/1329227995784915872903807060280344576 % 256:=by
 omega
def outV (q:List Nat) (i:Nat):Nat:=
 if 8*i/26+1<5 then q.getD (8*i/26) 0/2 ^ (8*i % 26) ||| q.getD (8*i/26+1) 0*2 ^ (26-8*i % 26)else q.getD (8*i/26) 0/2 ^ (8*i % 26)
theorem outV_byte (x i:Nat) (hi:i<16):outV (qQT x) i % 256=x/256 ^ i % 256:=by
 rcases i with _|_|_|_|_|_|_|_|_|_|_|_|_|_|_|_|i
 ·exact out_0 x
 ·exact out_1 x
 ·exact out_2 x
 ·exact out_3 x
 ·exact out_4 x
 ·exact out_5 x
 ·exact out_6 x
 ·exact out_7 x
 ·exact out_8 x
 ·exact out_9 x
 ·exact out_10 x
 ·exact out_11 x
 ·exact out_12 x
 ·exact out_13 x
 ·exact out_14 x
 ·exact out_15 x
 ·omega
theorem make_run (n:Nat) (hn:n≤140737488355328) (W:World):(Instr.makeSlice 22 (.int .i64 (n:Int)) (.int .i64 (n:Int))).run Tryz.prog W=.ok (.slice (some ⟨W.heap.size,0,none⟩) n n) (W.alloc (.cells (W8 (kQc n 0)) 5)):=by
 have h:=Go.run_make_row' (P:=Tryz.prog) 22 5 (.int .u8 0) 1 Tryz.underlying22 (by kernel_rfl) rfl .i64 .i64 n (by omega) (by omega) W
 rw[made_W8]at h
 exact h
theorem W8_B8 (l:List UInt8):W8 l=(B8 l).toArray:=rfl
end Go.Proofs.YtlocplkjokoknaaGreat
namespace Go.Proofs.YtlocplkjokoknaaGreat
open Go.RowKit
attribute [local go_sem ↓] Go.wp_at_zero Go.wp_at_succ
def Z16:List UInt8:=[0,0,0,0,0,0,0,0,0,0,0,0,0,0,0,0]
theorem qKz:W8 Z16=#[.int .u8 0,.int .u8 0,.int .u8 0,.int .u8 0,.int .u8 0,.int .u8 0,.int .u8 0,.int .u8 0,.int .u8 0,.int .u8 0,.int .u8 0,.int .u8 0,.int .u8 0,.int .u8 0,.int .u8 0,.int .u8 0]:=rfl
theorem u8_and' (a b:UInt8):bits .and .u8 (a.toNat:Int) (b.toNat:Int)=((a &&& b).toNat:Int):=by
 rw[u8_and_nat _ _ a.toNat_lt b.toNat_lt,UInt8.toNat_and]
theorem and_ex (a b:UInt8):∃y:UInt8,Hid (y=a &&& b)∧bits .and .u8 (a.toNat:Int) (b.toNat:Int)=(y.toNat:Int):=⟨_,rfl,u8_and' a b⟩
structure BW (w:World) (t:TypeId) (g:Nat) (l:List UInt8) (W:World):Prop where
 b:W.heap[g]?=some (.cells (W8 l) t (0,0))
 hg:w.heap.size≤g
 bel:Below w.heap.size w W
theorem BW.set {w W:World} {t:TypeId} {g:Nat} {l:List UInt8} (h:BW w t g l W) (i:Nat) (x:UInt8):BW w t g (l.set i x) (W.setCell ⟨g,i,none⟩ (.int .u8 (x.toNat:Int))) where
 b:=by rw [heap_setCell_same _ _ _ _ _ _ h.b,qYX]
 hg:=h.hg
 bel:=h.bel.trans (qQi (qQF (World.grownBy.refl W (some g)) _ _) h.bel.size (by rintro k ⟨⟩;exact h.hg))
theorem BW.away {w W W':World} {t:TypeId} {g k:Nat} {m:List UInt8} (h:BW w t k m W) (hne:k≠g) (hg:w.heap.size≤g) (hgr:W.grownBy W' (some g)):BW w t k m W' where
 b:=qQd hgr (by simp;exact hne) h.b
 hg:=h.hg
 bel:=h.bel.trans (qQi hgr h.bel.size (by rintro k ⟨⟩;exact hg))
theorem BW.keep {w W W':World} {t:TypeId} {g:Nat} {l:List UInt8} (h:BW w t g l W) (hb:Below W.heap.size W W'):BW w t g l W':=⟨qQb hb (qQe h.b) h.b,h.hg,h.bel.trans (hb.mono h.bel.size)⟩
theorem BW.ret {w W W':World} {t:TypeId} {g:Nat} {m:List UInt8} (h:BW w t g m W) (hg:W.grownBy W' (some g)):Below w.heap.size w W':=
 h.bel.trans (qQi hg h.bel.size (by rintro k ⟨⟩;exact h.hg))
theorem qJH (W:World) (g i:Nat) (v:Value):W.grownBy (W.setCell ⟨g,i,none⟩ v) (some g):=qQF (World.grownBy.refl _ _) _ _
theorem qZK {l:List UInt8} (h:l.length=16):(Tryz.prog.info? 155).map (·.size)=some (W8 l).size:=by rw [qQw,h];kernel_rfl
theorem clamp_any (b:List UInt8) (hb:b.length=16) (w:World) :
  Calls Tryz.prog 121 #[.agg (W8 b)] w fun e w'=>e=.returned (.agg (W8 (qV0 b)))∧Below w.heap.size w w':=by
 have HB:=Lh hb
 have Z:=Lh qKz
 clear hb
 go_enter Tryz.func121,Tryz.ntmps121
 go_wp2_with fail
 rw[←Z.out]
 obtain⟨w1,hw1⟩:∃w1,w1=(w.alloc (.cells (W8 b) 155)).alloc (.cells (W8 Z16) 155):=⟨_,rfl⟩
 have S1:=Lh (show BW w 155 w.heap.size (qVy b 0) w1∧BW w 155 (w.heap.size+1) Z16 w1 by
  have hb:Below w.heap.size w w1:=by rw [hw1];exact((Below.refl _ _).alloc (kQh _) _).alloc (by simp) _
  rw[hw1]at hb ⊢
  rw[show qVy b 0=b from rfl]
  exact⟨⟨qQM _ _ _ (by simp) (qQk _ _ _ rfl),by omega,hb⟩,⟨qQk _ _ _ (by simp),by omega,hb⟩⟩)
 rw[←hw1]
 clear hw1
 go_loopw [3] (fun u wr=>∃t:Nat,t≤4∧u=.int .i64 (3+4*(t:Int))∧BW w 155 w.heap.size (qVy b t) wr∧BW w 155 (w.heap.size+1) Z16 wr) (fun u _=>20-(intOf u).toNat)
 case atStart=>exact⟨0,by omega,rfl,S1.out⟩
 case round=>
  obtain⟨t,ht,rfl,hs⟩:=hrel
  have T:=Lh ht
  have S2:=Lh hs
  clear ht hs S1
  obtain⟨q,hq⟩:∃q,q=qVy b t:=⟨_,rfl⟩
  rw[←hq]at S2
  have QL:=Lh (show q.length=16 by rw [hq,qJL,HB.out])
  have Q:=Lh hq
  clear hq
  have t4:(t:Int)≤4:=by have:=T.out;omega
  have b0:(0:Int)≤3+4*(t:Int):=by omega
  by_cases hlt:t<4
  ·have hD:decide (3+4*(t:Int)<16)=true:=by simp;omega
   obtain⟨x,hx⟩:∃x,x=q.getD (3+4*t) 0:=⟨_,rfl⟩
   have a1:=qQg S2.out.1.b (3+4*t) (qZ4 _ (3+4*t) (by rw [QL.out];omega))
   have f1:=qQz S2.out.1.b (3+4*t)
   rw[←hx]at a1
   have X:=Lh hx
   obtain⟨y,hy,e1⟩:=and_ex x 15
   rw[show(((15:UInt8).toNat:Nat):Int)=15 from rfl]at e1
   have e2:(3+4*(t:Int)).toNat=3+4*t:=by omega
   have b1:3+4*(t:Int)<16:=by omega
   clear hx
   go_upto_region 5 with fail
   clear a1 f1 e1
   obtain⟨p,hp⟩:∃p,p=q.set (3+4*t) y:=⟨_,rfl⟩
   obtain⟨w2,hw2⟩:∃w2,w2=wr.setCell ⟨w.heap.size,3+4*t,none⟩ (.int .u8 (y.toNat:Int)):=⟨_,rfl⟩
   have S3:=Lh (show BW w 155 w.heap.size p w2∧BW w 155 (w.heap.size+1) Z16 w2 by rw [hw2,hp];exact⟨S2.out.1.set _ _,S2.out.2.away (by omega) (kQh _) (qJH _ _ _ _)⟩)
   rw[←hw2]
   have PL:=Lh (show p.length=16 by rw [hp,List.length_set,QL.out])
   have PP:=Lh hp
   clear hw2 hp
   by_cases h5:3+4*t+1<16
   ·have hE:decide (3+4*(t:Int)+1<16)=true:=by simp;omega
    obtain⟨z,hz⟩:∃z,z=p.getD (3+4*t+1) 0:=⟨_,rfl⟩
    have a2:=qQg S3.out.1.b (3+4*t+1) (qZ4 _ (3+4*t+1) (by rw [PL.out];exact h5))
    have f2:=qQz S3.out.1.b (3+4*t+1)
    rw[←hz]at a2
    have ZZ:=Lh hz
    obtain⟨v,hv,e3⟩:=and_ex z 252
    rw[show(((252:UInt8).toNat:Nat):Int)=252 from rfl]at e3
    have e4:(3+4*(t:Int)+1).toNat=3+4*t+1:=by omega
    have b2:3+4*(t:Int)+1<16:=by omega
    have b3:(0:Int)≤3+4*(t:Int)+1:=by omega
    clear hz
    go_wp2_with fail
    go_roundw
    case rel=>
     refine⟨t+1,by omega,by go_num,?_⟩
     rw[qVy,←Q.out,←X.out,←hy.out,←PP.out]
     rw[if_pos h5,←ZZ.out,←hv.out]
     exact⟨S3.out.1.set _ _,S3.out.2.away (by omega) (kQh _) (qJH _ _ _ _)⟩
    case measure=>simp [intOf];omega
   ·have hE:decide (3+4*(t:Int)+1<16)=false:=by simp;omega
    go_wp2_with fail
    go_roundw
    case rel=>
     refine⟨t+1,by omega,by go_num,?_⟩
     rw[qVy,←Q.out,←X.out,←hy.out,←PP.out]
     rw[if_neg h5]
     exact S3.out
    case measure=>simp [intOf];omega
  ·have ht:Hid (t=4):=show t=4 by have:=T.out;omega
   have hD:decide (3+4*(t:Int)<16)=false:=by simp;omega
   have QE:=Lh (show q=qV0 b by rw [Q.out,ht.out];rfl)
   go_wp2_with (first
    | (refine wpList_load_row rfl 155 (.tmp 1) rfl w.heap.size rfl 155 (W8 q) (0,0) _ S2.out.1.b Tryz.underlying155 rfl (qZK QL.out) ?_)
    | (refine qQf rfl rfl 155 (.tmp 2) (.tmp 22) rfl (w.heap.size+1) (W8 q) rfl rfl 155 _ S2.out.2.b (qZK QL.out) (by rw [qQw,qQw,QL.out];rfl) (qZg _) ?_;intro w8 hz8 hg8 _))
   exact bodyPost_ret (results_cell_row rfl _ _ (w.heap.size+1) 155 (W8 q) (0,0) _ rfl hz8 Tryz.underlying155 rfl (qZK QL.out)) rfl ⟨by rw [QE.out],S2.out.2.ret hg8⟩
theorem min16_ex (r:Nat) (h0:0<r):∃m:Nat,(if (16:Int)<(r:Int)then(16:Int)else(r:Int))=(m:Int)∧m≤r∧m≤16∧0<m∧Hid (m=min r 16):=by
 by_cases h:16<r
 ·exact⟨16,by rw [if_pos (by omega)];rfl,by omega,by omega,by omega,show 16=min r 16 by omega⟩
 ·exact⟨r,by rw [if_neg (by omega)],by omega,by omega,by omega,show r=min r 16 by omega⟩
theorem mod_add_mul (A B R P:Nat):(A+B)*R % P=(A % P+B)*R % P:=by
 rw[Nat.mul_mod (A+B) R P,Nat.mul_mod (A % P+B) R P,Nat.add_mod A B P,Nat.add_mod (A % P) B P,Nat.mod_mod]
structure PsW (w:World) (key:List UInt8) (r:List Nat) (M3 M4:Nat) (a:List Nat) (W:World):Prop where
 bk:BW w 37 w.heap.size key W
 bo:BW w 155 (w.heap.size+1) Z16 W
 br:NW w M3 r W
 ba:NW w M4 a W
 h3:w.heap.size+1<M3
 h4:M3<M4
theorem PsW.keep {w W W':World} {key:List UInt8} {r a:List Nat} {M3 M4:Nat} (h:PsW w key r M3 M4 a W) (hb:Below W.heap.size W W'):PsW w key r M3 M4 a W':=
 ⟨h.bk.keep hb,h.bo.keep hb,h.br.keep hb,h.ba.keep hb,h.h3,h.h4⟩
theorem PsW.whole {w W W':World} {key:List UInt8} {r a a':List Nat} {M3 M4:Nat} (h:PsW w key r M3 M4 a W) (hz:W'.heap[M4]?=some (.cells (WN a') 222 (0,0))) (hg:W.grownBy W' (some M4)):PsW w key r M3 M4 a' W':=by
 have h3:=h.h3
 have h4:=h.h4
 exact⟨h.bk.away (by omega) (by omega) hg,h.bo.away (by omega) (by omega) hg,h.br.away (by omega) (by omega) hg,h.ba.whole hz hg,h3,h4⟩
theorem polySum_any (key:List UInt8) (hk:key.length=32) (w:World) (A:Option Addr) (n c:Nat) (l:List UInt8) (hn:l.length=n) (hc:n≤c) (hR:RdB w A l) (hb:n≤140737488355000) :
  Calls Tryz.prog 104 #[.agg (W8 key),.slice A n c] w fun e w'=>e=.returned (.agg (W8 (polyL key l)))∧Below w.heap.size w w':=by
 have HK:=Lh hk
 have HN:=Lh hn
 have HC:=Lh hc
 have HR:=Lh hR
 have HB:=Lh hb
 have Z:=Lh qKz
 have Z5':=Lh zero5
 obtain⟨i0,hi,hz0,hz1,hz2⟩:=info_parts (show(Tryz.prog.info? 5).map (fun i=>(i.zero,i.size,i.bytes))=some (some (.int .u8 0),1,1) by kernel_rfl)
 have I0:=Lh hi
 have I2:=Lh hz1
 have K16:=Lh (show(key.take 16).length=16 by simp [hk])
 have KD:=Lh (show(key.drop 16).length=16 by simp [hk])
 have Z24:=Lh (show(Tryz.prog.info? 155).map (·.size)=some (B8 (key.take 16)).length by rw [qQt,K16.out];kernel_rfl)
 clear hn hc hR hb hk hi hz0 hz1 hz2
 go_enter Tryz.func104,Tryz.ntmps104
 go_upto_region 1 with fail
 rw[←Z.out]
 obtain⟨w1,hw1⟩:∃w1,w1=(w.alloc (.cells (W8 key) 37)).alloc (.cells (W8 Z16) 155):=⟨_,rfl⟩
 have S1:=Lh (show BW w 37 w.heap.size key w1∧BW w 155 (w.heap.size+1) Z16 w1 by
  have hb:Below w.heap.size w w1:=by rw [hw1];exact((Below.refl _ _).alloc (kQh _) _).alloc (by simp) _
  rw[hw1]at hb ⊢
  exact⟨⟨qQM _ _ _ (by simp) (qQk _ _ _ rfl),by omega,hb⟩,⟨qQk _ _ _ (by simp),by omega,hb⟩⟩)
 rw[←hw1]
 clear hw1
 have HRG:=Lh (show w1.rangeAt w.heap.size 0 (B8 (key.take 16)) by
  intro j v hj
  have hj2:j<16:=by have:=(List.getElem?_eq_some_iff.1 hj).1;rw [qQt,K16.out]at this;exact this
  rw[qV3 _ _ (by rw [K16.out];exact hj2)]at hj
  cases hj
  rw[Nat.zero_add]
  refine(qQg S1.out.1.b j (qZ4 key j (by rw [HK.out];omega))).trans ?_
  rw[kQa,kQa,List.getElem?_take,if_pos hj2])
 obtain⟨half,hhalf⟩:∃half,half=qV0 (key.take 16):=⟨_,rfl⟩
 have HH:=Lh hhalf
 have HL:=Lh (show half.length=16 by rw [hhalf,qJK,K16.out])
 clear hhalf
 go_upto_region 2 with (first
  | (refine qQa rfl (qJX 37 (.tmp 2) (.const (.int .i64 16)) rfl 32 5 Tryz.underlying37 I0.out w.heap.size 16 (by omega) rfl rfl _) ?_)
  | (refine qQa rfl (qWK 155 (.tmp 17) rfl 16 5 Tryz.underlying155 (some ⟨w.heap.size,0,none⟩) 16 32 rfl (by omega) _) ?_)
  | (refine wpList_load_mid rfl 155 (.tmp 18) rfl w.heap.size 0 rfl (B8 (key.take 16)) _ HRG.out Tryz.underlying155 rfl Z24.out ?_))
 change Calls _ _ #[.agg (W8 (key.take 16))] _ _
 refine(clamp_any (key.take 16) K16.out _).mono ?_
 rw[←HH.out]
 rintro e w2 ⟨rfl,hb2⟩
 have S2:=Lh (And.intro (S1.out.1.keep hb2) (S1.out.2.keep hb2))
 clear hb2 S1 HRG
 go_upto_region 2 with (refine qQp rfl rfl 155 (.tmp 5) (.tmp 20) rfl (W8 half) rfl rfl (qZK HL.out) ?c1 (qZg _) ?_)
 case c1=>rw [qQw,HL.out];rfl
 obtain⟨M2,hM2⟩:∃M,M=w2.heap.size:=⟨_,rfl⟩
 rw[←hM2]
 obtain⟨w3,hw3⟩:∃w3,w3=w2.alloc (.cells (W8 half) 155):=⟨_,rfl⟩
 have S3:=Lh (show BW w 37 w.heap.size key w3∧BW w 155 (w.heap.size+1) Z16 w3∧w3.heap[M2]?=some (.cells (W8 half) 155 (0,0)) by
  have hb:Below w2.heap.size w2 w3:=by rw [hw3];exact(Below.refl _ _).alloc (kQh _) _
  exact⟨S2.out.1.keep hb,S2.out.2.keep hb,by rw [hw3];exact qQk _ _ _ hM2⟩)
 rw[←hw3]
 clear hw3 hM2 S2
 go_wp2_with (refine qQa rfl (qXs 155 (.tmp 5) rfl 16 5 Tryz.underlying155 I0.out M2 rfl _) ?_)
 refine(nload_any (some ⟨M2,0,none⟩) 16 16 half HL.out (by omega) (by omega) _ (RdB.row S3.out.2.2)).mono ?_
 obtain⟨r,hr⟩:∃r,r=qQT (qZv half):=⟨_,rfl⟩
 rw[←hr]
 have RL:=Lh (show r.length=5 by rw [hr];rfl)
 have RB:=Lh (show Bd 67108864 r by rw [hr];exact(qJv _).mono (by omega))
 have RV:=Lh (show valN r=qZv half by rw [hr,qYJ _ (by have:=leNat_lt16 half HL.out;omega)])
 clear hr
 rintro e w4 ⟨rfl,hb4⟩
 have S4:=Lh (And.intro (S3.out.1.keep hb4) (S3.out.2.1.keep hb4))
 clear hb4 S3
 go_upto_region 3 with (refine qQp rfl rfl 222 (.tmp 6) (.tmp 22) rfl (WN r) rfl rfl (qZw RL.out) ?c2 (qVC _) ?_)
 case c2=>rw [qZs,RL.out];rfl
 obtain⟨M3,hM3⟩:∃M,M=w4.heap.size:=⟨_,rfl⟩
 rw[←hM3]
 go_wp2_with fail
 rw[←Z5'.out,←hM3]
 obtain⟨w5,hw5⟩:∃w5,w5=(w4.alloc (.cells (WN r) 222)).alloc (.cells (WN Z5) 222):=⟨_,rfl⟩
 have S5:=Lh (show PsW w key r M3 (M3+1) Z5 w5 by
  have hb:Below w4.heap.size w4 w5:=by rw [hw5];exact((Below.refl _ _).alloc (kQh _) _).alloc (by simp) _
  have hbk:=S4.out.1.keep hb
  have h1:=qQe S4.out.2.b
  exact⟨hbk,S4.out.2.keep hb,⟨by rw [hw5];exact qQM _ _ _ (by simp;omega) (qQk _ _ _ hM3),by omega,hbk.bel⟩,⟨by rw [hw5];exact qQk _ _ _ (by simp;omega),by omega,hbk.bel⟩,by omega,by omega⟩)
 rw[←hw5]
 clear hw5 S4 hM3
 have TB:=Lh (show qXA Tryz.prog from⟨Tryz.underlying22,by kernel_rfl⟩)
 go_loopw [1] (fun b wr=>∃(l':List UInt8) (A':Option Addr) (c':Nat) (a:List Nat),b=.slice A' l'.length c'∧l'.length≤c'∧RdB w A' l'∧l'.length≤n∧a.length=5∧Bd 67108868 a∧qVV (qZv half) (valN a % PN) l'=qVV (qZv half) 0 l∧PsW w key r M3 (M3+1) a wr) (fun b _=>lenOf b)
 case atStart=>exact⟨l,A,c,Z5,by rw [HN.out],by rw [HN.out];exact HC.out,HR.out,by rw [HN.out];exact kQh _,rfl,by intro j;rcases j with _|_|_|_|_|j<;>simp [Z5],rfl,S5.out⟩
 case round=>
  obtain⟨l',A',c',a,rfl,hlc,hr',hln,hal,hab,hpa,hs⟩:=hrel
  obtain⟨q,hq⟩:∃q,q=l'.length:=⟨_,rfl⟩
  rw[←hq]at hlc hln ⊢
  have QL:=Lh hq.symm
  have LC:=Lh hlc
  have R':=Lh hr'
  have LN:=Lh hln
  have AL:=Lh hal
  have AB:=Lh hab
  have PA:=Lh hpa
  have S6:=Lh hs
  clear hq hlc hr' hln hal hab hpa hs S5 HR
  by_cases h0:0<q
  ·have hD:decide ((0:Int)<(q:Int))=true:=by simp;omega
   obtain⟨m,hm,hmq,hm16,hm0,hme⟩:=min16_ex q h0
   have hcm:=cut_max (P:=Tryz.prog) 22 5 Tryz.underlying22 I0.out I2.out A' q c' m (by have:=LC.out;omega)
   have LM:=Lh (show(l'.take m).length=m by have:=QL.out;simp;omega)
   have TM:=Lh (show l'.take m=l'.take 16 by
    rw[hme.out]
    by_cases h:q≤16
    ·rw [Nat.min_eq_left h,kQn (by rw [QL.out];omega),kQn (by rw [QL.out];omega)]
    ·rw [Nat.min_eq_right (by omega)])
   have RM:=Lh ((R'.out.take m).keep S6.out.bk.bel)
   have NA:=Lh (show A'=none→m=0∧m=0 by
    intro e
    obtain⟨b,o,e2,_⟩:=R'.out 0 (by rw [QL.out];exact h0)
    rw[e]at e2
    cases e2)
   go_upto_region 7 with (refine appg_list rfl TB.out (.tmp 32) (.tmp 33) rfl A' m m (l'.take m) [1] ⟨wr.heap.size,0,none⟩ 1 1 rfl rfl LM.out rfl NA.out (RM.out.keep ((Below.refl _ _).alloc (kQh _) _)) (RdB.one (y:=1) (qQg (fr:=(0,0)) (qQk wr _ _ rfl) 0 rfl)) (by omega) (by omega) ?_;intro v1 w6 ho hg)
   clear hm hcm
   have S7:=Lh ((S6.out.keep ((Below.refl _ _).alloc (kQh _) _)).keep (show Below _ _ _ from qQi hg (kQh _) (by intro g e;cases e)))
   obtain⟨A7,c7,rfl,hr7,hl7,_,_⟩:=ho.read
   obtain⟨k,hk⟩:∃k,k=(l'.take m++[1]).length:=⟨_,rfl⟩
   rw[←hk]at hl7 ⊢
   have KE:=Lh hk.symm
   have KB:=Lh (show k=m+1 by rw [hk,kQj,LM.out];rfl)
   have R7:=Lh hr7
   clear ho hg hr7 hl7 hk RM
   have S8:=Lh (S7.out.keep (Below.refl _ _).drew)
   refine qZI (PsW w key r M3 (M3+1) a) 6 [(true,0),(true,1),(true,4),(false,2),(false,3),(false,5)] _ (by kernel_rfl) (by kernel_rfl) rfl (fun _ _ d _ _ h=>by cases d<;>exact h) ?_
   simp only [kQl,kQm,kQd,kQg,kQe,kQo]
   refine qQB (by rfl) S8.out (fun W hW=>qQj 222 (.tmp 7) rfl (M3+1) rfl 222 (WN a) (0,0) _ hW.ba.b Tryz.underlying222 rfl (qZw AL.out)) ?_
   simp only [Act.put,pq1,pq2,pq3]
   refine qQB (by rfl) S8.out (fun W hW=>by go_simp;rfl) ?_
   simp only [Act.put,pq1,pq2,pq3]
   refine qQB (by rfl) S8.out (fun W hW=>qQj 222 (.tmp 6) rfl M3 rfl 222 (WN r) (0,0) _ hW.br.b Tryz.underlying222 rfl (qZw RL.out)) ?_
   simp only [Act.put,pq1,pq2,pq3]
   refine qKc (by rfl) (fun K hK=>?_)
   go_simp
   refine(nload_any A7 k c7 (l'.take m++[1]) KE.out (by have:=KB.out;omega) ?k1 w6.drew R7.out).mono ?_
   case k1=>
    intro e
    have h1:=KB.out
    have h2:=LM.out
    rw[kQa,kQq (by omega),show 16-(l'.take m).length=0 by omega]
    decide
   obtain⟨B,hB⟩:∃B,B=qQT (qZv (l'.take m++[1])):=⟨_,rfl⟩
   rw[←hB]
   have BL:=Lh (show B.length=5 by rw [hB];rfl)
   have BB:=Lh (show Bd 67108863 B by rw [hB];exact qJv _)
   have BV:=Lh (show valN B=qZv (l'.take 16++[1]) by
    rw[hB,TM.out]
    refine qYJ _ ?_
    have h1:=qKk (l'.take 16) [1]
    have h2:=qW5 (l'.take 16)
    have h3:256 ^ (l'.take 16).length≤256 ^ 16:=Nat.pow_le_pow_right (by omega) (by simp;omega)
    have h4:qZv [1]=1:=rfl
    rw[h4]at h1
    omega)
   clear hB
   rintro e w8 ⟨rfl,hb8⟩
   have S9:=Lh (S8.out.keep hb8)
   clear hb8
   refine hK.out _ _ S9.out ?_
   clear hK K
   refine qKc (by rfl) (fun K hK=>?_)
   go_simp
   refine(nadd_any a B AL.out BL.out (AB.out.mono (by omega)) (BB.out.mono (by omega)) _).mono ?_
   obtain⟨t,ht⟩:∃t,t=addK a B 5:=⟨_,rfl⟩
   rw[←ht]
   have TL:=Lh (show t.length=5 by rw [ht,qJm,AL.out])
   have TBd:=Lh (show Bd 268435456 t by rw [ht];exact((addK_all a B AL.out BL.out).2 _ _ AB.out BB.out).mono (by omega))
   have TV:=Lh (show valN t=valN a+valN B by rw [ht];exact(addK_all a B AL.out BL.out).1)
   clear ht
   rintro e w9 ⟨rfl,hb9⟩
   have S10:=Lh (S9.out.keep hb9)
   clear hb9
   refine hK.out _ _ S10.out ?_
   clear hK K
   refine qKc (by rfl) (fun K hK=>?_)
   go_simp
   refine(ntimes_any t r TL.out RL.out TBd.out RB.out _).mono ?_
   obtain⟨u,hu⟩:∃u,u=qVZ t r:=⟨_,rfl⟩
   rw[←hu]
   have UL:=Lh (show u.length=5 by rw [hu,qY3])
   have UA:=Lh (timesL_all t r TL.out RL.out TBd.out RB.out)
   rw[←hu]at UA
   clear hu
   rintro e w10 ⟨rfl,hb10⟩
   have S11:=Lh (S10.out.keep hb10)
   clear hb10
   refine hK.out _ _ S11.out ?_
   clear hK K
   refine qX8 (fun K hK=>?_)
   refine qQN 222 (.tmp 7) (.tmp 40) rfl (M3+1) (WN u) rfl rfl _ _ S11.out.ba.b (qZw UL.out) (by rw [qZs,qZs,UL.out,AL.out]) (qVC _) ?_
   intro w11 hz11 hg11 hs11
   have S12:=Lh (S11.out.whole hz11 hg11)
   clear hz11 hg11 hs11
   refine hK.out _ _ ?_
   clear hK K
   simp only [Act.put]
   obtain⟨A'',hcut,hcutR,_⟩:=qVR (P:=Tryz.prog) 22 5 Tryz.underlying22 I0.out I2.out A' q c' m hmq
   have RD:=Lh (hcutR w l' QL.out LC.out R'.out)
   clear hcutR
   go_wp2_with fail
   go_roundw
   case rel=>
    have h1:=QL.out
    have h2:=LC.out
    refine⟨l'.drop m,A'',c'-m,u,by rw [kQv,h1],by rw [kQv,h1];omega,RD.out,by rw [kQv,h1];have:=LN.out;omega,UL.out,UA.out.2,?_,S12.out⟩
    rw[←PA.out,qYB _ _ l' (by intro e;rw [e]at h1;simp at h1;omega),UA.out.1,TV.out,BV.out,RV.out]
    have hd:l'.drop m=l'.drop 16:=by
     rw[hme.out]
     by_cases h:q≤16
     ·rw [Nat.min_eq_left h,kQt (by rw [h1];omega),kQt (by rw [h1];omega)]
     ·rw [Nat.min_eq_right (by omega)]
    rw[hd]
    congr 1
    exact mod_add_mul _ _ _ _
   case measure=>simp [lenOf];omega
  ·have hl0:Hid (l'=[]):=List.eq_nil_of_length_eq_zero (by rw [QL.out];omega)
   have hD:decide ((0:Int)<(q:Int))=false:=by simp;omega
   have XV:=Lh (show valN a % PN=qVV (qZv half) 0 l by have:=PA.out;rw [hl0.out,polyA_nil]at this;exact this)
   clear PA
   go_wp2_with (refine wpList_load_row rfl 222 (.tmp 7) rfl (M3+1) rfl 222 (WN a) (0,0) _ S6.out.ba.b Tryz.underlying222 rfl (qZw AL.out) ?_)
   refine(nleast_any a AL.out AB.out _).mono ?_
   obtain⟨X,hX⟩:∃X,X=valN a % PN:=⟨_,rfl⟩
   obtain⟨L,hL⟩:∃L,L=qYK a:=⟨_,rfl⟩
   rw[←hL]
   have LL:=Lh (show L=qQT X by rw [hL,hX];exact leastL_all a AL.out AB.out)
   have LLen:=Lh (show L.length=5 by rw [LL.out];rfl)
   have LB:=Lh (show Bd 67108863 L by rw [LL.out];exact qJv _)
   have XE:=Lh (show X=qVV (qZv half) 0 l by rw [hX];exact XV.out)
   clear hX hL
   rintro e w6 ⟨rfl,hb6⟩
   have S7:=Lh (S6.out.keep hb6)
   clear hb6
   go_upto_region 10 with (refine qQf rfl rfl 222 (.tmp 7) (.tmp 45) rfl (M3+1) (WN L) rfl rfl 222 _ S7.out.ba.b (qZw LLen.out) (by rw [qZs,qZs,LLen.out,AL.out]) (qVC _) ?_;intro w7 hz7 hg7 hs7)
   have S8:=Lh (S7.out.whole hz7 hg7)
   clear hz7 hg7 hs7 S6 S7
   go_wp2_with fail
   rw[←Z.out]
   obtain⟨M5,hM5⟩:∃M,M=w7.heap.size:=⟨_,rfl⟩
   rw[←hM5]
   obtain⟨T,hT⟩:∃T,T=qWw (tagN X (key.drop 16)):=⟨_,rfl⟩
   have TL:=Lh (show T.length=16 by rw [hT,qW9])
   have TT:=Lh hT
   obtain⟨w8,hw8⟩:∃w8,w8=w7.alloc (.cells (W8 Z16) 155):=⟨_,rfl⟩
   have S9:=Lh (show PsW w key r M3 (M3+1) L w8∧BW w 155 M5 (qXF T 0) w8∧M3+1<M5 by
    have hb:Below w7.heap.size w7 w8:=by rw [hw8];exact(Below.refl _ _).alloc (kQh _) _
    have h9:=S8.out.keep hb
    have h1:=qQe S8.out.ba.b
    refine⟨h9,⟨?_,?_,h9.bk.bel⟩,by omega⟩
    ·rw [hw8,qX3,TL.out]
     exact qQk _ _ _ hM5
    ·have:=S8.out.ba.bel.size
     omega)
   have M5L:=Lh S9.out.2.2
   rw[←hw8]
   clear hw8 hM5 hT S8
   go_loopw [11,46] (fun cy u wr=>∃i:Nat,i≤16∧u=.int .i64 (i:Int)∧cy=.int .u64 ((tagK X (key.drop 16) i/256 ^ i:Nat):Int)∧PsW w key r M3 (M3+1) L wr∧BW w 155 M5 (qXF T i) wr) (fun _ u _=>16-(intOf u).toNat)
   case atStart=>exact⟨0,by omega,rfl,by simp [tagK,qZv,Nat.mod_one],S9.out.1,S9.out.2.1⟩
   case round=>
    obtain⟨i,hi,rfl,rfl,hs,hm⟩:=hrel
    have I:=Lh hi
    have SA:=Lh hs
    have SB:=Lh hm
    clear hi hs hm S9
    obtain⟨cy,hcy⟩:∃cy,cy=tagK X (key.drop 16) i/256 ^ i:=⟨_,rfl⟩
    rw[←hcy]
    have CY:=Lh hcy
    have CB:=Lh (show cy≤1 by rw [hcy];exact tagK_small _ _ _ (by rw [KD.out];exact I.out))
    clear hcy
    by_cases hlt:i<16
    ·have hD2:decide ((i:Int)<16)=true:=by simp;omega
     obtain⟨k,hk⟩:∃k,k=8*i/26:=⟨_,rfl⟩
     obtain⟨s,hs⟩:∃s,s=8*i % 26:=⟨_,rfl⟩
     have b1:(i:Int)≤15:=by omega
     have e1:8*(i:Int)/26=(k:Int):=by omega
     have e2:8*(i:Int) % 26=(s:Int):=by omega
     have k4:k<5:=by omega
     have s26:s<26:=by omega
     obtain⟨x,hx⟩:∃x,x=L.getD k 0:=⟨_,rfl⟩
     have xb:x≤67108863:=by rw [hx];exact LB.out k
     have a1:=qQg SA.out.ba.b k (qXe _ k (by rw [LLen.out];exact k4))
     rw[←hx]at a1
     obtain⟨v0,hv0⟩:∃v,v=x/2 ^ s:=⟨_,rfl⟩
     have v0b:v0≤67108863:=by rw [hv0];exact kQk (Nat.div_le_self _ _) xb
     have e5:(x:Int)/2 ^ s=(v0:Int):=by rw [hv0,Int.natCast_ediv,Int.natCast_pow];rfl
     have K:=Lh hk
     have S:=Lh hs
     have E1:=Lh e1
     have E2:=Lh e2
     have E5:=Lh e5
     have X0:=Lh hx
     have V0:=Lh hv0
     clear hk hs hx hv0
     go_upto_if 62 with fail
     clear a1 e1 e2 e5
     rw[E1.out,E2.out]
     obtain⟨V,hV⟩:∃V,V=outV L i:=⟨_,rfl⟩
     have HV:=Lh hV
     clear hV
     go_cut [16] (fun v wx=>v=.int .u64 (V:Int)∧V<18446744073709551616∧wx=wr)
     case first=>
      by_cases h5:k+1<5
      ·have hE:decide ((k:Int)+1<5)=true:=by simp;omega
       obtain⟨y,hy⟩:∃y,y=L.getD (k+1) 0:=⟨_,rfl⟩
       have yb:y≤67108863:=by rw [hy];exact LB.out _
       have a2:=qQg SA.out.ba.b (k+1) (qXe _ (k+1) (by rw [LLen.out];exact h5))
       rw[←hy]at a2
       obtain⟨Y,hYY⟩:∃Y,Y=y*2 ^ (26-s):=⟨_,rfl⟩
       have sp:2 ^ (26-s)≤2 ^ 26:=Nat.pow_le_pow_right (by omega) (by omega)
       have Yb:Y≤67108863*67108864:=by rw [hYY];exact Nat.mul_le_mul yb sp
       have e6:IntKind.u64.wrap ((y:Int)*2 ^ (26-s))=(Y:Int):=by
        have:((y:Int)*2 ^ (26-s))=(Y:Int):=by rw [hYY,Int.natCast_mul,Int.natCast_pow];rfl
        rw[this];exact wrap_u64 _ (by omega)
       have e7:(26-(s:Int)).toNat=26-s:=by omega
       have b2:(0:Int)≤26-(s:Int):=by omega
       have b6:(s:Int)≤26:=by omega
       have b3:(k:Int)+1<5:=by omega
       have e8:((k:Int)+1).toNat=k+1:=by omega
       have VE:Hid (V=v0 ||| Y):=by
        show V=_
        rw[HV.out,outV,←K.out,←S.out,if_pos h5,←X0.out,←V0.out,←hy,←hYY]
       have e9:bits .or .u64 (v0:Int) (Y:Int)=(V:Int):=by rw [VE.out];exact or64 v0 Y (by omega) (by omega)
       have Vb:V<18446744073709551616:=by rw [VE.out];exact Nat.or_lt_two_pow (n:=64) (by omega) (by omega)
       clear hy hYY sp
       go_wp2_with fail
       go_meet
       exact⟨rfl,Vb,rfl⟩
      ·have hE:decide ((k:Int)+1<5)=false:=by simp;omega
       have VE:V=v0:=by rw [HV.out,outV,←K.out,←S.out,if_neg h5,←X0.out,←V0.out]
       have VE2:=Lh VE
       clear VE
       go_wp2_with fail
       go_meet
       exact⟨by rw [VE2.out],by rw [VE2.out];omega,rfl⟩
     case rest=>
     obtain⟨rfl,hVb,rfl⟩:=hcut
     obtain⟨B,hB⟩:∃B,B=X/256 ^ i % 256:=⟨_,rfl⟩
     have VB:Hid (V % 256=B):=by
      show V % 256=B
      rw[HV.out,LL.out,hB]
      exact outV_byte X i hlt
     have Bb:B≤255:=by rw [hB];omega
     obtain⟨kb,hkb⟩:∃y,y=key.getD (16+i) 0:=⟨_,rfl⟩
     have a3:=qQg SA.out.bk.b (16+i) (qZ4 key (16+i) (by rw [HK.out];omega))
     rw[←hkb]at a3
     have kb8:=kb.toNat_lt
     have e3:IntKind.u64.wrap (kb.toNat:Int)=(kb.toNat:Int):=wrap_u64 _ (by omega)
     have e4:bits .and .u64 (V:Int) 255=(B:Int):=by
      have h:=u64_and_nat V 255 hVb (by omega)
      rw[show((255:Nat):Int)=255 from rfl]at h
      rw[h,show(255:Nat)=2 ^ 8-1 from rfl,Nat.and_two_pow_sub_one_eq_mod]
      have:=VB.out
      omega
     have b3:16+(i:Int)<32:=by omega
     have b4:(0:Int)≤16+(i:Int):=by omega
     have e6:(16+(i:Int)).toNat=16+i:=by omega
     have cb:=CB.out
     have b5:(B:Int)+(kb.toNat:Int)≤600:=by omega
     have b6:(cy:Int)+((B:Int)+(kb.toNat:Int))≤600:=by omega
     obtain⟨z,hz⟩:∃z:UInt8,z=UInt8.ofNat (cy+(B+kb.toNat)):=⟨_,rfl⟩
     have e7:((cy:Int)+((B:Int)+(kb.toNat:Int))) % 256=(z.toNat:Int):=by
      rw[hz,UInt8.toNat_ofNat']
      omega
     obtain⟨cy',hcy'⟩:∃c:Nat,c=(cy+(B+kb.toNat))/256:=⟨_,rfl⟩
     have e8:((cy:Int)+((B:Int)+(kb.toNat:Int)))/256=(cy':Int):=by omega
     have a5:=qQg SB.out.b i (qZ4 _ i (by rw [qZV,TL.out];exact hlt))
     have f5:=qQz SB.out.b i
     have b7:(i:Int)<16:=by omega
     have KBE:=Lh (show kb=(key.drop 16).getD i 0 by rw [hkb,kQa,kQa,List.getElem?_drop])
     have BE:=Lh hB
     have ZE:=Lh hz
     have CE:=Lh hcy'
     clear hB hkb hz hcy' hVb
     go_wp2_with fail
     go_roundw
     case rel=>
      refine⟨i+1,by omega,by go_num,?_,?_,?_⟩
      ·rw [CE.out,tagK_next _ _ _ (by rw [KD.out];exact hlt),←CY.out,←BE.out,←KBE.out]
      ·have hgr:=qJH wc M5 i (.int .u8 (z.toNat:Int))
       have h1:=M5L.out
       have h3:=SA.out.h3
       have h4:=SA.out.h4
       have h5:=SB.out.hg
       exact⟨SA.out.bk.away (by omega) h5 hgr,SA.out.bo.away (by omega) h5 hgr,SA.out.br.away (by omega) h5 hgr,SA.out.ba.away (by omega) h5 hgr,h3,h4⟩
      ·have:=SB.out.set i z
       rw[show z=T.getD i 0 by rw [ZE.out,TT.out,tag_byte X _ KD.out i hlt,←CY.out,←BE.out,←KBE.out],qWN _ _ (by rw [TL.out];exact hlt)]at this
       rw[show z=T.getD i 0 by rw [ZE.out,TT.out,tag_byte X _ KD.out i hlt,←CY.out,←BE.out,←KBE.out]]
       exact this
     case measure=>simp [intOf];omega
    ·have hi:Hid (i=16):=show i=16 by have:=I.out;omega
     have hD2:decide ((i:Int)<16)=false:=by simp;omega
     have SC:=Lh (show BW w 155 M5 T wr by have:=SB.out;rw [hi.out,←TL.out,qX4]at this;exact this)
     go_wp2_with (first
      | (refine wpList_load_row rfl 155 (.tmp 10) rfl M5 rfl 155 (W8 T) (0,0) _ SC.out.b Tryz.underlying155 rfl (qZK TL.out) ?_)
      | (refine qQf rfl rfl 155 (.tmp 4) (.tmp 89) rfl (w.heap.size+1) (W8 T) rfl rfl 155 _ SA.out.bo.b (qZK TL.out) (by rw [qQw,qQw,TL.out];rfl) (qZg _) ?_;intro w8 hz8 hg8 _))
     exact bodyPost_ret (results_cell_row rfl _ _ (w.heap.size+1) 155 (W8 T) (0,0) _ rfl hz8 Tryz.underlying155 rfl (qZK TL.out)) rfl ⟨by rw [TT.out,XE.out,HH.out];rfl,SA.out.bo.ret hg8⟩
end Go.Proofs.YtlocplkjokoknaaGreat
namespace Go.Proofs.YtlocplkjokoknaaGreat
open Go.RowKit
theorem range_row {W:World} {g:Nat} {t:TypeId} {l:List UInt8} (h:W.heap[g]?=some (.cells (W8 l) t (0,0))) (off n:Nat) (hn:off+n≤l.length):W.rangeAt g off (B8 ((l.drop off).take n)):=by
 intro j v hj
 have hjl:j<n:=by
  have:=(List.getElem?_eq_some_iff.1 hj).1
  rw[qQt,kQp]at this
  omega
 rw[qV3 _ _ (by simp;omega)]at hj
 cases hj
 refine(qQg h (off+j) (qZ4 l (off+j) (by omega))).trans ?_
 rw[kQa,kQa,List.getElem?_take,if_pos hjl,List.getElem?_drop]
end Go.Proofs.YtlocplkjokoknaaGreat
namespace Go.Proofs.YtlocplkjokoknaaGreat
open Go.RowKit
attribute [local go_sem ↓] Go.wp_at_zero Go.wp_at_succ
def overL (beside sealed:List UInt8):List UInt8:=padB beside++padB sealed++leL 8 beside.length++leL 8 sealed.length
def tagL (k n beside sealed:List UInt8):List UInt8:=polyL ((qXK k n 0).take 32) (overL beside sealed)
def qWI (k n beside text:List UInt8):List UInt8:=qQY k n 1 text++tagL k n beside (qQY k n 1 text)
theorem qXq (k n beside sealed:List UInt8):(tagL k n beside sealed).length=16:=polyL_length _ _
theorem qXS (k n beside text:List UInt8):(qWI k n beside text).length=text.length+16:=by rw [qWI,kQj,qQX,qXq]
theorem overL_length (b s:List UInt8):(overL b s).length≤b.length+s.length+46:=by simp [overL,qWc,qQP];omega
theorem qWA {P:Program} {o:Oper} {a:Act} (ty:TypeId) (x:Operand) (ho:o.op=.load ty x) (b off:Nat) (hx:a.eval x=.pointer (some ⟨b,off,none⟩)) (l:List UInt8) {W:World} (h:W.rangeAt b off (B8 l)) {d:TypeDesc} (hu:P.underlying ty=some d)
  (hd:d.isRow=true) (hi:(P.info? ty).map (·.size)=some (B8 l).length):(execOp a.eval o).run P W=.ok (.value (.agg (W8 l))) W:=by
 unfold execOp
 simp only [ho,hx,Instr.loadAt,Instr.sureAddr,Sem.run_bind,Sem.run_pure,Result.andThen_ok,run_loadVar_mid W b off _ _ _ h hu hd hi]
 rfl
structure TgW (w:World) (k n:List UInt8) (z:List UInt8) (W:World):Prop where
 bk:W.heap[w.heap.size]?=some (.cells (W8 k) 38 (0,0))
 bn:W.heap[w.heap.size+1]?=some (.cells (W8 n) 128 (0,0))
 bo:W.heap[w.heap.size+1+1]?=some (.cells (W8 z) 155 (0,0))
 bel:Below w.heap.size w W
theorem TgW.keep {w W W':World} {k n z:List UInt8} (h:TgW w k n z W) {B:Nat} (hb:Below B W W') (hB:w.heap.size+1+1<B):TgW w k n z W':=
 ⟨qQb hb (by omega) h.bk,qQb hb (by omega) h.bn,qQb hb hB h.bo,h.bel.trans (hb.mono (by omega))⟩
theorem TgW.lt {w W:World} {k n z:List UInt8} (h:TgW w k n z W):w.heap.size+1+1<W.heap.size:=qQe h.bo
theorem TgW.seto {w W W':World} {k n z z':List UInt8} (h:TgW w k n z W) (hz:W'.heap[w.heap.size+1+1]?=some (.cells (W8 z') 155 (0,0))) (hg:W.grownBy W' (some (w.heap.size+1+1))):TgW w k n z' W':=
 ⟨qQd hg (by simp;omega) h.bk,qQd hg (by simp) h.bn,hz,h.bel.trans (qQi hg h.bel.size (by rintro g ⟨⟩;omega))⟩
theorem tag_any (k n:List UInt8) (hk:k.length=32) (hn:n.length=12) (w:World) (A:Option Addr) (q c:Nat) (l:List UInt8) (hq:l.length=q) (hR:RdB w A l) (A2:Option Addr) (q2 c2:Nat) (l2:List UInt8) (hq2:l2.length=q2) (hR2:RdB w A2 l2) (hl:q≤70000) (hl2:q2≤100000) :
  Calls Tryz.prog 79 #[.agg (W8 k),.agg (W8 n),.slice A q c,.slice A2 q2 c2] w fun e w'=>e=.returned (.agg (W8 (tagL k n l l2)))∧Below w.heap.size w w':=by
 have HK:=Lh hk
 have HN:=Lh hn
 have HQ:=Lh hq
 have HQ2:=Lh hq2
 have HR:=Lh hR
 have HR2:=Lh hR2
 have ZK:=Lh (show(Tryz.prog.info? 38).map (·.size)=some (W8 k).size by rw [qQw,hk];kernel_rfl)
 have ZN:=Lh (show(Tryz.prog.info? 128).map (·.size)=some (W8 n).size by rw [qQw,hn];kernel_rfl)
 have ZZ:=Lh qKz
 obtain⟨T,hT⟩:∃T,T=tagL k n l l2:=⟨_,rfl⟩
 rw[←hT]
 have TE:=Lh hT
 have QB:=Lh (And.intro hl hl2)
 have qb:(q:Int)≤70000:=by omega
 have qb2:(q2:Int)≤100000:=by omega
 clear hk hn hq hq2 hR hR2 hT hl hl2
 go_enter Tryz.func79,Tryz.ntmps79
 go_upto_region 1 with fail
 rw[←ZZ.out]
 generalize hw1:World.alloc w _=w0
 generalize hw2:World.alloc w0 _=w1
 generalize hw3:World.alloc w1 _=w2
 have S:=Lh (show TgW w k n Z16 w2 by
  have s0:w0.heap.size=w.heap.size+1:=by rw [←hw1,qQD]
  have s1:w1.heap.size=w.heap.size+1+1:=by rw [←hw2,qQD,s0]
  have b0:w0.heap[w.heap.size]?=some (.cells (W8 k) 38 (0,0)):=by rw [←hw1];exact qQk _ _ _ rfl
  have b1:w1.heap[w.heap.size+1]?=some (.cells (W8 n) 128 (0,0)):=by rw [←hw2];exact qQk _ _ _ s0.symm
  have b2:w2.heap[w.heap.size+1+1]?=some (.cells (W8 Z16) 155 (0,0)):=by rw [←hw3];exact qQk _ _ _ s1.symm
  have h0:Below w.heap.size w w0:=by rw [←hw1];exact qQh _ _
  have h1:Below w0.heap.size w0 w1:=by rw [←hw2];exact qQh _ _
  have h2:Below w1.heap.size w1 w2:=by rw [←hw3];exact qQh _ _
  exact⟨qQb h2 (by omega) (qQb h1 (by omega) b0),qQb h2 (by omega) b1,b2,h0.trans ((h1.mono (by omega)).trans (h2.mono (by omega)))⟩)
 clear hw1 hw2 hw3
 go_wp2_with (first
  | (refine qQa rfl (qQj 38 (.tmp 4) rfl w.heap.size rfl 38 (W8 k) (0,0) _ S.out.bk Tryz.underlying38 rfl ZK.out) ?_)
  | (refine qQa rfl (qQj 128 (.tmp 5) rfl (w.heap.size+1) rfl 128 (W8 n) (0,0) _ S.out.bn Tryz.underlying128 rfl ZN.out) ?_))
 refine(block_any k n HK.out HN.out 0 w2).mono ?_
 obtain⟨B,hB⟩:∃B,B=qXK k n 0:=⟨_,rfl⟩
 rw[←hB]
 have BE:=Lh hB
 have BL:=Lh (show B.length=64 by rw [hB,qZ0])
 have ZB:=Lh (show(Tryz.prog.info? 179).map (·.size)=some (W8 B).size by rw [qQw,BL.out];kernel_rfl)
 rintro e w3 ⟨rfl,hb⟩
 have S:=Lh (S.out.keep hb S.out.lt)
 clear hb hB
 go_upto_region 2 with (refine qQp rfl rfl 179 (.tmp 9) (.tmp 13) rfl (W8 B) rfl rfl ZB.out ?c1 (qZg _) ?_)
 case c1=>rw [qQw,BL.out];rfl
 have MW0:=Lh S.out.lt
 generalize hM:Array.size (World.heap w3)=M at *
 generalize hw:World.alloc w3 _=w4
 have GB:=Lh (show w4.heap[M]?=some (.cells (W8 B) 179 (0,0)) by rw [←hw];exact qQk _ _ _ hM.symm)
 have S:=Lh (show TgW w k n Z16 w4 by rw [←hw];exact S.out.keep (qQh _ _) S.out.lt)
 clear hM hw
 obtain⟨base,hbase⟩:∃b,b=w4.heap.size:=⟨_,rfl⟩
 have BZ:=Lh hbase
 have MB:=Lh (show M<base by rw [hbase];exact qQe GB.out)
 have MW:=Lh (show w.heap.size+1+1<M from MW0.out)
 have LB:=Lh (show w.heap.size+1+1<base by rw [hbase];exact S.out.lt)
 clear hbase
 go_wp2_with fail
 refine(qYC w4 base (.slice none 0 0) [] A q c l HQ.out (OwnB.nil _ _) (by rw [BZ.out];exact kQh _) (HR.out.keep S.out.bel) (by have:=QB.out;simp;omega)).mono ?_
 rw[List.nil_append]
 rintro e w5 ⟨v,rfl,ho,hb⟩
 have O:=Lh ho
 have GB:=Lh (qQb hb MB.out GB.out)
 have S:=Lh (S.out.keep hb LB.out)
 have SZ:=Lh (show base≤w5.heap.size by rw [BZ.out];exact hb.size)
 clear ho hb BZ
 go_wp2_with fail
 refine(qYC w5 base v (padB l) A2 q2 c2 l2 HQ2.out O.out SZ.out (HR2.out.keep S.out.bel) (by have:=QB.out;rw [qWc];have:=HQ.out;omega)).mono ?_
 rw[padB_app]
 rintro e w6 ⟨v2,rfl,ho,hb⟩
 have O:=Lh ho
 have GB:=Lh (qQb hb MB.out GB.out)
 have S:=Lh (S.out.keep hb LB.out)
 have SZ:=Lh (kQk SZ.out hb.size)
 clear ho hb
 go_upto_region 3 with fail
 obtain⟨i0,hi0,hz0,hz1,hz2⟩:=info_parts (show(Tryz.prog.info? 5).map (fun i=>(i.zero,i.size,i.bytes))=some (some (.int .u8 0),1,1) by kernel_rfl)
 have I0:=Lh hi0
 have ZX:=Lh (show(Tryz.prog.info? 37).map (·.size)=some (B8 (B.take 32)).length by rw [qQt,kQp,BL.out];kernel_rfl)
 have KL:=Lh (show(B.take 32).length=32 by rw [kQp,BL.out];rfl)
 clear hi0 hz0 hz1 hz2
 have C:=Lh (show TgW w k n Z16 w6.drew∧w6.drew.heap[M]?=some (.cells (W8 B) 179 (0,0))from⟨S.out.keep (Below.refl _ _).drew S.out.lt,GB.out⟩)
 refine qQu (fun W=>(∃z,TgW w k n z W)∧W.heap[M]?=some (.cells (W8 B) 179 (0,0))) [(true,0),(true,1),(true,2),(true,3),(true,4),(true,5),(true,7),(true,8),(false,6),(false,9),(false,10),(false,11)] (by kernel_rfl) (by kernel_rfl) (fun _ _ d _ _ h=>by cases d<;>exact h) ?_
 simp only [kQl,kQm,kQd,kQg,kQe,kQo]
 refine qQc (by rfl) (⟨⟨_,C.out.1⟩,C.out.2⟩) (fun W hW=>qJX 179 (.tmp 9) (.const (.int .i64 32)) rfl 64 5 Tryz.underlying179 I0.out M 32 (by omega) rfl rfl W) ?_
 simp only [Act.put,pq1,pq2,pq3]
 refine qQc (by rfl) (⟨⟨_,C.out.1⟩,C.out.2⟩) (fun W hW=>qWK 37 (.tmp 18) rfl 32 5 Tryz.underlying37 (some ⟨M,0,none⟩) 32 64 rfl (kQh _) W) ?_
 simp only [Act.put,pq1,pq2,pq3]
 refine qQc (by rfl) (⟨⟨_,C.out.1⟩,C.out.2⟩) (fun W hW=>qWA 37 (.tmp 19) rfl M 0 rfl (B.take 32) (range_row hW.2 0 32 (by rw [BL.out];omega)) Tryz.underlying37 rfl ZX.out) ?_
 simp only [Act.put,pq1,pq2,pq3]
 refine qQc (by rfl) (⟨⟨_,C.out.1⟩,C.out.2⟩) (fun W hW=>by go_simp;rfl) ?_
 simp only [Act.put,pq1,pq2,pq3]
 refine qQc (by rfl) (⟨⟨_,C.out.1⟩,C.out.2⟩) (fun W hW=>by go_simp;rfl) ?_
 simp only [Act.put,pq1,pq2,pq3]
 refine qQc (by rfl) (⟨⟨_,C.out.1⟩,C.out.2⟩) (fun W hW=>by go_simp;rfl) ?_
 simp only [Act.put,pq1,pq2,pq3]
 refine qQc (by rfl) (⟨⟨_,C.out.1⟩,C.out.2⟩) (fun W hW=>by go_simp;rfl) ?_
 simp only [Act.put,pq1,pq2,pq3]
 refine qQc (by rfl) (⟨⟨_,C.out.1⟩,C.out.2⟩) (fun W hW=>by go_simp;rfl) ?_
 simp only [Act.put,pq1,pq2,pq3]
 refine qQE (by rfl) (fun K hK=>?_)
 go_simp
 refine(count_any w6.drew base v2 (padB l++padB l2) O.out.drew SZ.out q (by omega) (by have:=QB.out;simp [qWc];have:=HQ.out;have:=HQ2.out;omega)).mono ?_
 rintro e w7 ⟨v3,rfl,ho,hb⟩
 have O:=Lh ho
 have C:=Lh (show TgW w k n Z16 w7∧w7.heap[M]?=some (.cells (W8 B) 179 (0,0))from⟨C.out.1.keep hb LB.out,qQb hb MB.out C.out.2⟩)
 have SZ:=Lh (kQk SZ.out hb.size)
 clear ho hb
 refine hK.out _ _ (⟨⟨_,C.out.1⟩,C.out.2⟩) ?_
 clear hK K
 refine qQE (by rfl) (fun K hK=>?_)
 go_simp
 refine(count_any w7 base v3 _ O.out SZ.out q2 (by omega) (by have:=QB.out;simp [qWc,qQP];have:=HQ.out;have:=HQ2.out;omega)).mono ?_
 obtain⟨V,hV⟩:∃V,V=padB l++padB l2++leL 8 q++leL 8 q2:=⟨_,rfl⟩
 rw[←hV]
 have VE:=Lh (show V=overL l l2 by rw [hV,overL,HQ.out,HQ2.out])
 rintro e w8 ⟨v4,rfl,ho,hb⟩
 obtain⟨A5,c5,rfl,hr5,hl5,_,_⟩:=ho.read
 obtain⟨m,hm⟩:∃m,m=V.length:=⟨_,rfl⟩
 rw[←hm]at hl5 ⊢
 have R5:=Lh hr5
 have L5:=Lh hl5
 have M5:=Lh hm.symm
 have MV:=Lh (show m≤200000 by have:=overL_length l l2;rw [←VE.out]at this;have:=QB.out;have:=HQ.out;have:=HQ2.out;omega)
 have C:=Lh (show TgW w k n Z16 w8∧w8.heap[M]?=some (.cells (W8 B) 179 (0,0))from⟨C.out.1.keep hb LB.out,qQb hb MB.out C.out.2⟩)
 have SZ:=Lh (kQk SZ.out hb.size)
 clear ho hb hr5 hl5 hm hV O
 refine hK.out _ _ (⟨⟨_,C.out.1⟩,C.out.2⟩) ?_
 clear hK K
 refine qQE (by rfl) (fun K hK=>?_)
 go_simp
 refine(polySum_any (B.take 32) KL.out w8 A5 m c5 V M5.out L5.out R5.out (by have:=MV.out;omega)).mono ?_
 rw[show polyL (B.take 32) V=T by rw [TE.out,tagL,VE.out,BE.out]]
 rintro e w9 ⟨rfl,hb⟩
 have C:=Lh (show TgW w k n Z16 w9∧w9.heap[M]?=some (.cells (W8 B) 179 (0,0))from⟨C.out.1.keep hb C.out.1.lt,qQb hb (qQe C.out.2) C.out.2⟩)
 have ZT:=Lh (show(Tryz.prog.info? 155).map (·.size)=some (W8 T).size by rw [qQw,TE.out,qXq];kernel_rfl)
 clear hb
 refine hK.out _ _ (⟨⟨_,C.out.1⟩,C.out.2⟩) ?_
 clear hK K
 refine qQE (by rfl) (fun K hK=>?_)
 refine qQN 155 (.tmp 8) (.tmp 28) rfl (w.heap.size+1+1) (W8 T) rfl rfl _ _ C.out.1.bo ZT.out (by rw [qQw,qQw,TE.out,qXq];rfl) (qZg _) ?_
 intro w10 hz10 hg10 _
 have C10:=Lh (C.out.1.seto hz10 hg10)
 have G10:=Lh (qQd hg10 (by have:=MW.out;simp;omega) C.out.2)
 clear hz10 hg10
 refine hK.out _ _ (⟨⟨_,C10.out⟩,G10.out⟩) ?_
 clear hK K
 refine qQG ?_
 go_wp2_with fail
 refine bodyPost_ret (results_cell_row rfl _ _ (w.heap.size+1+1) 155 (W8 T) (0,0) _ rfl C10.out.bo Tryz.underlying155 rfl ZT.out) rfl ⟨rfl,C10.out.bel⟩
theorem seal_go (k n:List UInt8) (hk:k.length=32) (hn:n.length=12) (w:World) (A:Option Addr) (q c:Nat) (l:List UInt8) (hq:l.length=q) (hR:RdB w A l) (A2:Option Addr) (q2 c2:Nat) (l2:List UInt8) (hq2:l2.length=q2) (hc2:q2≤c2) (hR2:RdB w A2 l2) (hl:q≤70000) (hl2:q2≤70000) :
  Calls Tryz.prog 92 #[.agg (W8 k),.agg (W8 n),.slice A q c,.slice A2 q2 c2] w fun e w'=>∃v,e=.returned v∧OwnB w' w.heap.size v (qWI k n l l2)∧Below w.heap.size w w':=by
 have TB:=Lh (show qXA Tryz.prog from⟨Tryz.underlying22,by kernel_rfl⟩)
 have HK:=Lh hk
 have HN:=Lh hn
 have HQ:=Lh hq
 have HQ2:=Lh hq2
 have HR:=Lh hR
 have HR2:=Lh hR2
 have HC2:=Lh hc2
 have ZK:=Lh (show(Tryz.prog.info? 38).map (·.size)=some (W8 k).size by rw [qQw,hk];kernel_rfl)
 have ZN:=Lh (show(Tryz.prog.info? 128).map (·.size)=some (W8 n).size by rw [qQw,hn];kernel_rfl)
 have QB:=Lh (And.intro hl hl2)
 obtain⟨i0,hi0,hz0,hz1,hz2⟩:=info_parts (show(Tryz.prog.info? 5).map (fun i=>(i.zero,i.size,i.bytes))=some (some (.int .u8 0),1,1) by kernel_rfl)
 have I0:=Lh hi0
 clear hk hn hq hq2 hR hR2 hl hl2 hc2 hi0 hz0 hz1 hz2
 go_enter Tryz.func92,Tryz.ntmps92
 go_upto_region 1 with fail
 generalize hw1:World.alloc w _=w0
 generalize hw2:World.alloc w0 _=w1
 have S:=Lh (show StrW w k n w1 by rw [←hw2,←hw1];exact str_start w k n)
 clear hw1 hw2
 go_wp2_with (first
  | (refine qQa rfl (qQj 38 (.tmp 4) rfl w.heap.size rfl 38 (W8 k) (0,0) _ S.out.bk Tryz.underlying38 rfl ZK.out) ?_)
  | (refine qQa rfl (qQj 128 (.tmp 5) rfl (w.heap.size+1) rfl 128 (W8 n) (0,0) _ S.out.bn Tryz.underlying128 rfl ZN.out) ?_))
 have SA:=Lh (stream_go k n HK.out HN.out 1 w1 A2 c2 l2 (HR2.out.keep S.out.bel) (by rw [HQ2.out];exact HC2.out) (by have:=QB.out;have:=HQ2.out;omega))
 rw[HQ2.out]at SA
 refine SA.out.mono ?_
 obtain⟨X,hX⟩:∃X,X=qQY k n 1 l2:=⟨_,rfl⟩
 rw[←hX]
 have XE:=Lh hX
 have XL:=Lh (show X.length=q2 by rw [hX,qQX,HQ2.out])
 rintro e w2 ⟨v,rfl,ho,hb⟩
 obtain⟨Ax,cx,rfl,hrx,_,_,hbx⟩:=ho.read
 rw[XL.out]at ho ⊢
 have O:=Lh ho
 have RX:=Lh hrx
 have BX:=Lh (show ∀g,(Value.slice Ax q2 cx).ownBlock=some g→w.heap.size+1<g from fun g e=>by have:=(ho.lt g e).1;have:=S.out.size;omega)
 have N1:=Lh S.out.bel.size
 have N2:=Lh hb.size
 have S:=Lh (S.out.below hb)
 clear ho hb hrx hX hbx SA
 go_wp2_with (first
  | (refine qQa rfl (qQj 38 (.tmp 4) rfl w.heap.size rfl 38 (W8 k) (0,0) _ S.out.bk Tryz.underlying38 rfl ZK.out) ?_)
  | (refine qQa rfl (qQj 128 (.tmp 5) rfl (w.heap.size+1) rfl 128 (W8 n) (0,0) _ S.out.bn Tryz.underlying128 rfl ZN.out) ?_))
 refine(tag_any k n HK.out HN.out w2 A q c l HQ.out (HR.out.keep S.out.bel) Ax q2 cx X XL.out RX.out (by have:=QB.out;omega) (by have:=QB.out;omega)).mono ?_
 obtain⟨T,hT⟩:∃T,T=tagL k n l X:=⟨_,rfl⟩
 rw[←hT]
 have TE:=Lh (show X++T=qWI k n l l2 by rw [hT,XE.out];rfl)
 have TL:=Lh (show T.length=16 by rw [hT,qXq])
 have ZT:=Lh (show(Tryz.prog.info? 155).map (·.size)=some (W8 T).size by rw [qQw,TL.out];kernel_rfl)
 rintro e w3 ⟨rfl,hb⟩
 have O:=Lh (O.out.below hb)
 have S:=Lh (S.out.below hb)
 have N3:=Lh (kQk N2.out hb.size)
 clear hb hT RX
 go_upto_region 3 with (refine qQp rfl rfl 155 (.tmp 10) (.tmp 19) rfl (W8 T) rfl rfl ZT.out ?c1 (qZg _) ?_)
 case c1=>rw [qQw,TL.out];rfl
 generalize hM:Array.size (World.heap w3)=M
 generalize hw:World.alloc w3 _=w4
 have RT:=Lh (show RdB w4 (some ⟨M,0,none⟩) T from RdB.row (t:=155) (fr:=(0,0)) (by rw [←hw];exact qQk _ _ _ hM.symm))
 have O:=Lh (show OwnB w4 w1.heap.size (.slice Ax q2 cx) X by rw [←hw];exact O.out.alloc _)
 have S:=Lh (show StrW w k n w4 by rw [←hw];exact S.out.below (qQh _ _))
 have SL:=Lh (show w1.heap.size≤w4.heap.size∧w.heap.size≤w1.heap.size from⟨by rw [←hw,qQD];exact Nat.le_succ_of_le N3.out,N1.out⟩)
 clear hM hw
 go_wp2_with (first
  | (refine qQa rfl (qXs 155 (.tmp 10) rfl 16 5 Tryz.underlying155 I0.out M rfl _) ?_)
  | (refine qX1 rfl TB.out (.tmp 20) (.tmp 21) rfl w1.heap.size _ X T (some ⟨M,0,none⟩) 16 16 rfl rfl TL.out O.out RT.out SL.out.1 (by have:=XL.out;have:=QB.out;omega) ?_;intro v5 w5 ho5 hg5 _))
 go_ret
 refine⟨_,rfl,by rw [←TE.out];exact ho5.mono SL.out.2,S.out.bel.trans (qQi hg5 S.out.bel.size (fun g e=>by have:=BX.out g e;omega))⟩
theorem appg_wp {P:Program} {o:Oper} {a:Act} {Q:Exit→Act→World→Prop} {K:Act→World→Prop} (T:qXA P) (s x:Operand) (ho:o.op=.call { callee:=.builtin .append,args:=#[s,x],argTypes:=#[22,22] }) {W:World}
  (A:Addr) (n c:Nat) (l ys:List UInt8) (Ax:Addr) (m cx:Nat) (hs:a.eval s=.slice (some A) n c) (hx:a.eval x=.slice (some Ax) m cx) (hn:l.length=n) (hm:ys.length=m) (HS:RdB W (some A) l) (HR:RdB W (some Ax) ys) (hfull:c<n+m) (hl:n+m≤140737488355328)
  (h:∀v1 w1,OwnB w1 W.heap.size v1 (l++ys)→W.grownBy w1 none→K (a.put o.dst v1) w1):o.wp P a W K Q:=by
 obtain⟨i0,hi,hzz⟩:=Option.map_eq_some_iff.1 T.hinfo
 simp only [Prod.mk.injEq]at hzz
 obtain⟨hz0,hz1,hz2⟩:=hzz
 have rd:∀(ad:Addr) (l:List UInt8),RdB W (some ad) l→∀j u,(B8 l)[j]?=some u→W.cell? (ad.add j)=some u:=by
  intro ad l hl j u hu
  have hj:j<l.length:=by
   have:=(List.getElem?_eq_some_iff.1 hu).1
   rwa [qQt]at this
  obtain⟨b',o',e',hc'⟩:=hl j hj
  injection e' with e'
  subst e'
  rw[qXZ,hc',←qV3 _ j hj,hu]
 obtain⟨v',w',hrun,r1,r2⟩:=run_append_arg_grows (P:=P) W 22 o.type 5 i0 (.int .u8 0) 1 1 T.ht hi hz0 hz1 hz2 rfl (by omega) A n c (B8 l) (by rw [qQt,hn,Nat.mul_one]) (rd A l HS) Ax m cx (B8 ys) (by rw [qQt,hm,Nat.mul_one]) (rd Ax ys HR) hfull (by unfold maxLen;omega) (by omega)
 have hrun':(Builtin.append_ #[22,22] o.type #[.slice (some A) n c,.slice (some Ax) m cx]).run P W=.ok v' w':=hrun
 unfold Oper.wp execOp
 simp only [ho,resolve,invoke,builtin,Sem.run_bind,Sem.run_pure,Result.andThen_ok,kQs,kQw,List.map_nil,hs,hx,hrun']
 refine h v' w' ?_ r2
 rw[OwnB,kQj,hn,hm,qWU]
 exact r1
theorem who_key {W:World} {M:Nat} {k bs:List UInt8} {T:TypeId} {fr:Nat×Nat} (h:W.heap[M]?=some (.cells (WhoL k bs).toArray T fr)):W.rangeAt M 0 (B8 k):=by
 intro j v hj
 refine qQg h (0+j) ?_
 have hl:j<(B8 k).length:=(List.getElem?_eq_some_iff.1 hj).1
 rw[Nat.zero_add,kQd,WhoL,List.getElem?_append_left hl,hj]
theorem who_bes {k bs:List UInt8} (hk:k.length=32):(WhoL k bs).toArray[32]?=some (.string (strB bs)):=by
 rw[kQd,WhoL,kQq (by rw [qQt,hk];exact kQh _),qQt,hk]
 rfl
theorem run_zero_ent {o:Oper} {a:Act} (ho:o.op=.build 132 #[]) (W:World):(execOp a.eval o).run Tryz.prog W=.ok (.value EntZ) W:=by
 have h2:∀W:World,(Instr.build 132 #[]).run Tryz.prog W=.ok EntZ W:=by
  intro W
  kernel_rfl
 unfold execOp
 simp only [ho,kQs,List.map_nil,Sem.run_bind,h2,Result.andThen_ok,Sem.run_pure]
def qVd (s:BSt) (k bs t:List UInt8):List UInt8:=qQR s.F s.u 12++qWI k (qQR s.F s.u 12) bs t
theorem qVp (s:BSt) (k bs t:List UInt8):(qVd s k bs t).length=t.length+28:=by rw [qVd,kQj,qQy,qXS];omega
def RealP (w0:World) (g S D b lo:Nat) (w:World) (s:BSt) (x:List UInt8) (w':World) (A:Option Addr) (m c:Nat):Prop:=
 RdB w' A x∧x.length=m∧m≤c∧(∀a,A=some a→w.heap.size≤a.block∧a.block<w'.heap.size)∧
  (∃m',BoxB w0 g S D b lo { s with u:=s.u+12,m:=m',n:=s.n+1 } w'∧(∀y,qZB m' y=(qZB s.m y||decide (y=x)))∧m'.length≤s.m.length+1)∧BoxF g S b w w'
theorem qJB (m:List (List UInt8×Ent)) (x:List UInt8) (e:Ent) (y:List UInt8):qZB (m++[(x,e)]) y=(qZB m y||decide (y=x)):=by
 simp only [qZB,List.any_append,List.any_cons,List.any_nil,Bool.or_false]
 congr 1
 exact decide_eq_decide.2 eq_comm
theorem knownM_set (m:List (List UInt8×Ent)) (j:Nat) (x:List UInt8) (e e0:Ent) (hj:m[j]?=some (x,e0)) (y:List UInt8):qZB (m.set j (x,e)) y=(qZB m y||decide (y=x)):=by
 have hlt:j<m.length:=(List.getElem?_eq_some_iff.1 hj).1
 have hkx:qZB m x=true:=by
  simp only [qZB,List.any_eq_true,decide_eq_true_eq]
  exact⟨_,kQu hj,rfl⟩
 have e1:qZB (m.set j (x,e)) y=qZB m y:=by
  have h1:∀l:List (List UInt8×Ent),qZB l y=(l.map (·.1)).any fun p=>decide (p=y):=by
   intro l
   simp [qZB,List.any_map,Function.comp_def]
  rw[h1,h1,List.map_set]
  congr 1
  apply List.ext_getElem?
  intro i
  rw[List.getElem?_set]
  split
  ·rename_i hi
   subst hi
   have h2:m[j]=(x,e0):=by rw [kQi hlt]at hj;exact Option.some.inj hj
   simp [hlt,h2]
  ·rfl
 rw[e1]
 by_cases hy:y=x
 ·rw [hy,hkx];rfl
 ·simp [hy]
theorem real_any (w0:World) (g S D b lo:Nat) (s:BSt) (w:World) (h:BoxB w0 g S D b lo s w) (k bs:List UInt8) (hk:k.length=32) (hbs:bs.length≤60000) (A:Option Addr) (q c:Nat) (l:List UInt8) (hq:l.length=q) (hc:q≤c) (hR:RdB w A l) (hO:l≠[]→∀a,A=some a→a.block≠g∧a.block≠S∧a.block≠b)
  (hq2:q≤60000) (hu:s.u+12≤900000) (hF:s.F.length≤100000) (hm:s.m.length≤10000) (hn:s.n≤100000) (hlo:lo≤w.heap.size) :
  Calls Tryz.prog 69 #[.pointer (some ⟨g,0,none⟩),.agg (WhoL k bs).toArray,.slice A q c] w fun e w'=>∃A2 m2 c2,e=.returned (.slice A2 m2 c2)∧RealP w0 g S D b lo w s (qVd s k bs l) w' A2 m2 c2:=by
 have TB:=Lh (show qXA Tryz.prog from⟨Tryz.underlying22,by kernel_rfl⟩)
 have H:=Lh h
 have HK:=Lh hk
 have HB:=Lh hbs
 have HQ:=Lh hq
 have HC:=Lh hc
 have HR:=Lh hR
 have HO:=Lh hO
 have Q2:=Lh hq2
 have HU:=Lh hu
 have HF:=Lh hF
 have HM:=Lh hm
 have HN:=Lh hn
 have HL:=Lh hlo
 obtain⟨cs,hcs⟩:∃cs,cs=(WhoL k bs).toArray:=⟨_,rfl⟩
 have CE:=Lh hcs
 rw[←hcs]
 obtain⟨N,hN⟩:∃N,N=qQR s.F s.u 12:=⟨_,rfl⟩
 have NE:=Lh hN
 have NL:=Lh (show N.length=12 by rw [hN,qQy])
 obtain⟨T,hT⟩:∃T,T=qWI k N bs l:=⟨_,rfl⟩
 have TE:=Lh hT
 have TL:=Lh (show T.length=q+16 by rw [hT,qXS,hq])
 have RE:=Lh (show qVd s k bs l=N++T by rw [qVd,hT,hN])
 have XL:=Lh (show(N++T).length=q+28 by rw [kQj,NL.out,TL.out];omega)
 have ZN:=Lh (show(Tryz.prog.info? 128).map (·.size)=some (B8 N).length by rw [qQt,NL.out];kernel_rfl)
 have ZN2:=Lh (show(Tryz.prog.info? 128).map (·.size)=some (W8 N).size by rw [qQw,NL.out];kernel_rfl)
 have ZK:=Lh (show(Tryz.prog.info? 38).map (·.size)=some (B8 k).length by rw [qQt,hk];kernel_rfl)
 have LT:=Lh (show g<w.heap.size∧S<w.heap.size∧b<w.heap.size from⟨qQe h.row,h.src.lt,h.map.lt⟩)
 have SB:=Lh h.Sb
 rw[RE.out]
 obtain⟨i0,hi0,hz0,hz1,hz2⟩:=info_parts (show(Tryz.prog.info? 5).map (fun i=>(i.zero,i.size,i.bytes))=some (some (.int .u8 0),1,1) by kernel_rfl)
 have I0:=Lh hi0
 have I1:=Lh hz1
 have qb:(q:Int)≤60000:=by omega
 clear h hk hbs hq hc hR hO hq2 hu hF hm hn hlo hcs hN hT hi0 hz0 hz1 hz2
 go_enter Tryz.func69,Tryz.ntmps69
 go_upto_region 1 with fail
 generalize hw1:World.alloc w _=w1
 have M1:=Lh (show w1.heap[w.heap.size]?=some (.cells cs 130 (0,0)) by rw [←hw1];exact qQk _ _ _ rfl)
 have B1:=Lh (show Below w.heap.size w w1 by rw [←hw1];exact qQh _ _)
 have S1:=Lh (show w1.heap.size=w.heap.size+1 by rw [←hw1,qQD])
 clear hw1
 have H1:=Lh (H.out.keep B1.out)
 have c1:=qQg H1.out.row 1 rfl
 go_wp2_with fail
 refine(qY4 S D s.F s.u true w1 H1.out.src H1.out.ltD HF.out (12:Int) (by show s.u+12≤900000;exact HU.out)).mono ?_
 rw[show qYi (12:Int)=12 from rfl,←NE.out]
 rintro e w2 ⟨v,rfl,ho,hs,hg⟩
 obtain⟨A6,c6,rfl,hr,_,_,hav⟩:=ho.read
 obtain⟨q6,o6,rfl,_⟩:=hr 0 (by rw [NL.out];omega)
 have RG:=Lh (qKR hr)
 rw[NL.out]
 have H2:=Lh (H1.out.step hs hg)
 have F2:=Lh ((BoxF.refl g S b w).below B1.out |>.grown hg (by rintro k ⟨⟩;exact .inr (.inl rfl)))
 have M2:=Lh (show w2.heap[w.heap.size]?=some (.cells cs 130 (0,0))from qQd hg (by intro ee;injection ee with ee;have:=LT.out.2.1;omega) M1.out)
 have S2:=Lh (show w.heap.size+1≤w2.heap.size by have:=hg.size;have:=S1.out;omega)
 clear ho hs hg hr hav c1
 go_upto_region 2 with (first
  | (refine qQa rfl (qWK 128 (.tmp 13) rfl 12 5 Tryz.underlying128 (some ⟨q6,o6,none⟩) 12 c6 rfl (kQh _) _) ?_)
  | (refine wpList_load_mid rfl 128 (.tmp 14) rfl q6 o6 rfl (B8 N) _ RG.out Tryz.underlying128 rfl ZN.out ?_)
  | (refine qQp rfl rfl 128 (.tmp 7) (.tmp 15) rfl (W8 N) rfl rfl ZN2.out ?c1 (qZg _) ?_))
 case c1=>rw [qQw,NL.out];rfl
 generalize hM:Array.size (World.heap w2)=M
 generalize hw3:World.alloc w2 _=w3
 have M3:=Lh (show w3.heap[w.heap.size]?=some (.cells cs 130 (0,0)) by rw [←hw3];exact qQM _ _ _ (qQe M2.out) M2.out)
 have N3:=Lh (show w3.heap[M]?=some (.cells (W8 N) 128 (0,0)) by rw [←hw3];exact qQk _ _ _ hM.symm)
 have B3:=Lh (show Below w2.heap.size w2 w3 by rw [←hw3];exact qQh _ _)
 have H3:=Lh (H2.out.keep B3.out)
 have F3:=Lh (F2.out.below B3.out)
 have R3:=Lh (show RdB w3 A l from HR.out.boxF F3.out HO.out)
 clear hM hw3
 have B:=Lh (show Below w3.heap.size w3 w3.drew from(Below.refl _ _).drew)
 refine qQu (fun W=>Below w3.heap.size w3 W) [(true,0),(true,1),(true,2),(true,3),(true,4),(true,5),(true,7),(false,6),(false,8),(false,9),(true,10)] (by kernel_rfl) (by kernel_rfl) (fun _ _ d _ _ h=>by cases d<;>exact h) ?_
 simp only [kQl,kQm,kQd,kQg,kQe,kQo]
 refine qQc (by rfl) B.out (fun W hW=>qXs 128 (.tmp 7) rfl 12 5 Tryz.underlying128 I0.out M rfl W) ?_
 simp only [Act.put,pq1,pq2,pq3]
 refine qQc (by rfl) B.out (fun W hW=>by go_simp;rfl) ?_
 simp only [Act.put,pq1,pq2,pq3]
 refine qQc (by rfl) B.out (fun W hW=>qWA 38 (.tmp 17) rfl w.heap.size 0 rfl k (who_key (by rw [←CE.out];exact qQb hW (qQe M3.out) M3.out)) Tryz.underlying38 rfl ZK.out) ?_
 simp only [Act.put,pq1,pq2,pq3]
 refine qQc (by rfl) B.out (fun W hW=>qQj 128 (.tmp 7) rfl M rfl 128 (W8 N) (0,0) _ (qQb hW (qQe N3.out) N3.out) Tryz.underlying128 rfl ZN2.out) ?_
 simp only [Act.put,pq1,pq2,pq3]
 refine qQc (by rfl) B.out (fun W hW=>by go_simp;rfl) ?_
 simp only [Act.put,pq1,pq2,pq3]
 refine qQc (by rfl) B.out (fun W hW=>qQq 9 (.tmp 20) rfl _ Tryz.underlying9 rfl rfl (qQg (qQb hW (qQe M3.out) M3.out) 32 (by rw [CE.out];exact who_bes HK.out))) ?_
 simp only [Act.put,pq1,pq2,pq3]
 refine qQc (by rfl) B.out (fun W hW=>by go_simp;rfl) ?_
 simp only [Act.put,pq1,pq2,pq3]
 refine qQE (by rfl) (fun K hK=>?_)
 refine bytes_wp 9 22 5 (.tmp 21) rfl Tryz.underlying9 Tryz.underlying22 Tryz.underlying5 bs rfl ?_
 intro w4 cb hrb hcb hb4 _
 generalize World.drew w3=w3d at *
 have B4:=Lh (B.out.trans (hb4.mono B.out.size))
 have RB4:=Lh hrb
 clear hrb hb4
 refine hK.out _ _ B4.out ?_
 clear hK K
 refine qQE (by rfl) (fun K hK=>?_)
 go_simp
 refine(seal_go k N HK.out NL.out w4 (some ⟨w3d.heap.size,0,none⟩) bs.length cb bs rfl RB4.out A q c l HQ.out HC.out (R3.out.keep B4.out) (by have:=HB.out;omega) (by have:=Q2.out;omega)).mono ?_
 rw[←TE.out]
 rintro e w5 ⟨v,rfl,ho,hb5⟩
 obtain⟨A5,c5,rfl,hr,_,_,_⟩:=ho.read
 obtain⟨q5,o5,rfl,_⟩:=hr 0 (by rw [TL.out];omega)
 rw[TL.out]
 have RT:=Lh hr
 have B5:=Lh (B4.out.trans (hb5.mono B4.out.size))
 clear ho hr hb5
 refine hK.out _ _ B5.out ?_
 clear hK K
 refine qQE (by rfl) (fun K hK=>?_)
 refine appg_wp TB.out (.tmp 16) (.tmp 24) rfl ⟨M,0,none⟩ 12 12 N T ⟨q5,o5,none⟩ (q+16) c5 rfl rfl NL.out TL.out (RdB.row (qQb B5.out (qQe N3.out) N3.out)) RT.out (by omega) (by have:=Q2.out;omega) ?_
 intro v6 w6 ho hg
 obtain⟨A6,c6b,rfl,hr6,hc6,_,ha6⟩:=ho.read
 rw[XL.out]
 have X6:=Lh hr6
 have C6:=Lh (show q+28≤c6b by rw [←XL.out];exact hc6)
 have A6B:=Lh (show ∀a,A6=some a→w3.heap.size≤a.block∧a.block<w6.heap.size from fun a ea=>⟨kQk B5.out.size (ha6 a ea).1,(ha6 a ea).2⟩)
 have B6:=Lh (B5.out.trans (qQi hg B5.out.size (by rintro k ⟨⟩)))
 clear ho hr6 hc6 ha6 hg
 refine hK.out _ _ B6.out ?_
 clear hK K
 refine qQc (by rfl) B6.out (fun W hW=>by go_simp;rfl) ?_
 simp only [Act.put,pq1,pq2,pq3]
 refine qQG ?_
 have H6:=Lh (H3.out.keep B6.out)
 have F6:=Lh (F3.out.below B6.out)
 go_wp2_with (refine qQa rfl (run_zero_ent rfl _) ?_)
 refine(keep_any w0 g S D b lo { s with u:=s.u+12 } w6 H6.out A6 (q+28) c6b (N++T) XL.out X6.out (by have:=Q2.out;omega) ⟨kQc 32 0,[],[]⟩ none 0 0 rfl (RdB.nil _ _) (by simp) (kQh _) (fun a ea=>(by cases ea)) (kQk HM.out (by omega)) (Nat.lt_of_le_of_lt HN.out (by omega))).mono ?_
 rintro e w7 ⟨rfl,m',hm',hbx,wa,wb,hba,hgb,hg7⟩
 have F7:=Lh (((F6.out.below hba).grown hgb (by rintro k ⟨⟩;exact .inr (.inr (.inl rfl)))).grown hg7 (by rintro k ⟨⟩;exact .inl rfl))
 have WZ:=Lh (show w.heap.size≤w3.heap.size from F3.out.1)
 have Z7:=Lh (show w6.heap.size≤w7.heap.size from kQk hba.size (kQk hgb.size hg7.size))
 have X7:=Lh (show RdB w7 A6 (N++T)from((X6.out.keep hba).grown hgb (fun k ek a ea=>by cases ek;have:=(A6B.out a ea).1;have:=LT.out.2.2;have:=WZ.out;omega)).grown hg7 (fun k ek a ea=>by cases ek;have:=(A6B.out a ea).1;have:=LT.out.1;have:=WZ.out;omega))
 have H7:=Lh hbx
 have M7:=Lh (show(∀y,qZB m' y=(qZB s.m y||decide (y=N++T)))∧m'.length≤s.m.length+1 by
  rcases hm' with ⟨_,rfl⟩|⟨j,e0,hj,rfl⟩
  ·exact⟨fun y=>qJB _ _ _ _,by simp⟩
  ·exact⟨fun y=>knownM_set _ _ _ _ _ hj _,by simp⟩)
 clear hm' hbx hba hgb hg7
 go_wp2_with fail
 go_ret
 exact⟨A6,q+28,c6b,rfl,X7.out,XL.out,C6.out,fun a ea=>⟨kQk WZ.out (A6B.out a ea).1,kQb (A6B.out a ea).2 Z7.out⟩,⟨m',H7.out,M7.out⟩,F7.out⟩
theorem bseal_real (w0:World) (g S D b lo:Nat) (s:BSt) (w:World) (h:BoxB w0 g S D b lo s w) (hmo:s.mode=0) (e:Ent) (hk:e.key.length=32) (Ab:Option Addr) (qb cb:Nat) (hqb:e.beside.length=qb) (hRb:RdB w Ab e.beside) (hb2:qb≤60000)
  (A:Option Addr) (q c:Nat) (hq:e.text.length=q) (hc:q≤c) (hR:RdB w A e.text) (hO:e.text≠[]→∀a,A=some a→a.block≠g∧a.block≠S∧a.block≠b)
  (hq2:q≤60000) (hu:s.u+12≤900000) (hF:s.F.length≤100000) (hm:s.m.length≤10000) (hn:s.n≤100000) (hlo:lo≤w.heap.size) :
  Calls Tryz.prog 48 #[.pointer (some ⟨g,0,none⟩),.agg (W8 e.key),.slice Ab qb cb,.slice A q c] w fun en w'=>∃A2 m2 c2,en=.returned (.tuple #[.slice A2 m2 c2,.int .i64 0])∧RealP w0 g S D b lo w s (qVd s e.key e.beside e.text) w' A2 m2 c2:=by
 have H:=Lh h
 have HK:=Lh hk
 have HB:=Lh hqb
 have RB:=Lh hRb
 have HB2:=Lh hb2
 have HQ:=Lh hq
 have HC:=Lh hc
 have HR:=Lh hR
 have HO:=Lh hO
 have Q2:=Lh hq2
 have HU:=Lh hu
 have HF:=Lh hF
 have HM:=Lh hm
 have HN:=Lh hn
 have HL:=Lh hlo
 have MO:=Lh (show(s.mode:Int)=0 by omega)
 have d1:decide ((65536:Int)<(q:Int))=false:=by simp;omega
 have d2:decide ((65536:Int)<(qb:Int))=false:=by simp;omega
 have d3:decide (65536<q)=false:=by simp;omega
 have d4:decide (65536<qb)=false:=by simp;omega
 obtain⟨cs,hcs⟩:∃cs,cs=(WhoL e.key e.beside).toArray:=⟨_,rfl⟩
 have CE:=Lh hcs
 have CO:=Lh (show cs.all (·.oneCell')=true by rw [hcs];exact WhoL_one _ _)
 have CS:=Lh (show cs.size=33 by rw [hcs,qJP _ _ hk])
 have Z:=Lh (show(Tryz.prog.info? 130).map (·.size)=some cs.size by rw [CS.out];exact qKu)
 have ZK:=Lh (show(Tryz.prog.info? 38).map (·.size)=some (W8 e.key).size by rw [qQw,hk];kernel_rfl)
 obtain⟨r,hr⟩:∃r,r=qVd s e.key e.beside e.text:=⟨_,rfl⟩
 have RH:=Lh hr
 rw[←hr]
 clear h hmo hk hqb hRb hb2 hq hc hR hO hq2 hu hF hm hn hlo hcs hr
 go_enter Tryz.func48,Tryz.ntmps48
 go_upto_region 1 with fail
 generalize hw1:World.alloc w _=w1
 have M1:=Lh (show w1.heap[w.heap.size]?=some (.cells (W8 e.key) 38 (0,0)) by rw [←hw1];exact qQk _ _ _ rfl)
 have B1:=Lh (show Below w.heap.size w w1 by rw [←hw1];exact qQh _ _)
 clear hw1
 go_wp2_with fail
 refine(qWi w0 g S D b lo s w1 (H.out.keep B1.out)).mono ?_
 rintro e2 wd ⟨rfl,hw⟩
 rw[hw]
 clear hw wd
 go_upto_region 6 with (first
  | (refine qQa rfl (qQj 38 (.tmp 5) rfl w.heap.size rfl 38 (W8 e.key) (0,0) _ M1.out Tryz.underlying38 rfl ZK.out) ?_)
  | (refine qQa rfl (qZo 22 9 (.tmp 24) rfl Tryz.underlying22 Tryz.underlying5 Tryz.underlying9 (RB.out.keep B1.out) qb cb HB.out rfl) ?_)
  | (refine qQa rfl (show(execOp _ _).run _ _=.ok (.value (.agg cs)) _ by rw [CE.out];exact qVJ (.tmp 23) (.tmp 25) rfl e.key e.beside HK.out rfl rfl _) ?_)
  | (refine qQp rfl rfl 130 (.tmp 10) (.tmp 26) rfl cs rfl rfl Z.out ?c1 CO.out ?_))
 case c1=>rw [CS.out];rfl
 generalize hM:Array.size (World.heap w1)=M
 generalize hw2:World.alloc w1 _=w2
 have M2:=Lh (show w2.heap[M]?=some (.cells cs 130 (0,0)) by rw [←hw2];exact qQk _ _ _ hM.symm)
 have B2:=Lh (show Below w.heap.size w w2 by rw [←hw2];exact B1.out.alloc B1.out.size _)
 clear hM hw2
 have H2:=Lh (H.out.keep B2.out)
 have c0:=qQg H2.out.row 0 rfl
 rw[MO.out]at c0
 go_wp2_with (refine qQa rfl (qQj 130 (.tmp 10) rfl M rfl 130 cs (0,0) _ M2.out Tryz.underlying130 rfl Z.out) ?_)
 rw[CE.out]
 refine(real_any w0 g S D b lo s w2 H2.out e.key e.beside HK.out (by rw [HB.out];exact HB2.out) A q c e.text HQ.out HC.out (HR.out.keep B2.out) HO.out Q2.out HU.out HF.out HM.out HN.out (kQk HL.out B2.out.size)).mono ?_
 rw[←RH.out]
 rintro e2 w3 ⟨A3,m3,c3,rfl,hr3,hl3,hc3,hb3,hx3,hf3⟩
 have R3:=Lh hr3
 have L3:=Lh hl3
 have C3:=Lh hc3
 have BB3:=Lh hb3
 have X3:=Lh hx3
 have F3:=Lh hf3
 clear hr3 hl3 hc3 hb3 hx3 hf3 c0
 go_wp2_with fail
 go_ret2
 exact⟨A3,m3,c3,rfl,R3.out,L3.out,C3.out,fun a ea=>⟨kQk B2.out.size (BB3.out a ea).1,(BB3.out a ea).2⟩,X3.out,⟨kQk B2.out.size F3.out.1,fun k h1 h2 h3 h4=>(F3.out.2 k (kQb h1 B2.out.size) h2 h3 h4).trans (B2.out.block k h1)⟩⟩
theorem bseal_big (w0:World) (g S D b lo:Nat) (s:BSt) (w:World) (h:BoxB w0 g S D b lo s w) (k:List UInt8) (Ab:Option Addr) (qb cb:Nat) (hb2:65536<qb) :
  Calls Tryz.prog 48 #[.pointer (some ⟨g,0,none⟩),.agg (W8 k),.slice Ab qb cb,.slice none 0 0] w fun en w'=>en=.returned (.tuple #[.slice none 0 0,.int .i64 3])∧Below w.heap.size w w':=by
 have H:=Lh h
 have d2:decide ((65536:Int)<(qb:Int))=true:=by simp;omega
 have d4:decide (65536<qb)=true:=by simp;omega
 clear h hb2
 go_enter Tryz.func48,Tryz.ntmps48
 go_upto_region 1 with fail
 generalize hw1:World.alloc w _=w1
 have B1:=Lh (show Below w.heap.size w w1 by rw [←hw1];exact qQh _ _)
 clear hw1
 go_wp2_with fail
 refine(qWi w0 g S D b lo s w1 (H.out.keep B1.out)).mono ?_
 rintro e2 wd ⟨rfl,hw⟩
 rw[hw]
 clear hw wd
 go_wp2_with fail
 go_ret2
 exact⟨rfl,B1.out⟩
end Go.Proofs.YtlocplkjokoknaaGreat
namespace Go.Proofs.YtlocplkjokoknaaGreat
open Go.RowKit
theorem qYb (p q:Addr) (x y:Value) (hpq:p.block≠q.block) (u:TypeId) (pv:Value) (older:List PanicEntry) (w:World) (hx:w.cell? p=some x) (hz:w.frozen? p=false) (hy:w.cell? q=some y) (hz2:w.frozen? q=false) :
  CallsD Tryz.prog 77 #[.pointer (some p),.pointer (some q)] (.panicking ({ v:=.iface u pv,recovered:=false }::older)) w fun e u' w'=>
   e=.returned (.tuple #[])∧u'=.panicking ({ v:=.iface u pv,recovered:=true }::older)∧w'=(w.setCell p (.slice none 0 0)).setCell q (.bool false):=by
 have hy1:(w.setCell p (.slice none 0 0)).cell? q=some y:=by rw [World.cell?_setCell_other _ _ _ _ (fun e=>hpq (by rw [e]))];exact hy
 have hz1:(w.setCell p (.slice none 0 0)).frozen? q=false:=by simp [hz2]
 refine callsD_of_wpS Tryz.func77 rfl fun c₀ cs hu=>?_
 apply wpS_seq
 apply wpS_region
 simp [wpOpsS,go_sem,recoverD,hu,Tryz.ntmps77,Exit.thenS]
 refine wpS_cond (t:=true) (by simp [Act.eval,Array.replicate]) ?_
 simp only [if_true]
 apply wpS_region
 simp [wpOpsS,go_sem,hx,hz,hy1,hz1,bodyPostS,results,Tryz.results77]
theorem catch_idle (p q:Addr) (w:World) :
  CallsD Tryz.prog 77 #[.pointer (some p),.pointer (some q)] .returning w fun e u' w'=>e=.returned (.tuple #[])∧u'=.returning∧w'=w:=by
 refine callsD_of_wpS Tryz.func77 rfl fun c₀ cs hu=>?_
 apply wpS_seq
 apply wpS_region
 simp [wpOpsS,go_sem,recoverD,hu,Tryz.ntmps77,Exit.thenS]
 refine wpS_cond (t:=false) (by simp [Act.eval,Array.replicate]) ?_
 simp only [Bool.false_eq_true,if_false]
 refine wpS_of_wp (wp_skip ?_)
 cases c₀
 simp_all [bodyPostS,results,Tryz.results77]
theorem must_true (w:World):Calls Tryz.prog 78 #[.bool true] w fun e w'=>e=.returned (.tuple #[])∧w'=w:=by
 go_enter Tryz.func78,Tryz.ntmps78
 go_wp2_with fail
 go_end0
 exact⟨rfl,rfl⟩
def Thrown (e:Ending):Prop:=∃u v,e=.panicked [{ v:=.iface u v,recovered:=false }]
theorem qYH (w:World):Calls Tryz.prog 78 #[.bool false] w fun e w'=>Thrown e∧w'=w:=by
 go_enter Tryz.func78,Tryz.ntmps78
 go_wp2_with fail
 exact⟨rfl,⟨_,_,rfl⟩,rfl⟩
theorem qKN {P:Program} {o:Oper} {a:Act} (t e:TypeId) (x h m':Operand) (ho:o.op=.slice t x none (some h) (some m')) {i:TypeInfo} (ht:P.underlying t=some (.slice e)) (hi:P.info? e=some i) (hsz:i.size=1) (A:Option Addr) (n c m:Nat) (hm:m≤c)
  (hx:a.eval x=.slice A n c) (hh:a.eval h=.int .i64 (m:Int)) (hmm:a.eval m'=.int .i64 (m:Int)) (W:World):(execOp a.eval o).run P W=.ok (.value (.slice A m m)) W:=by
 unfold execOp
 simp only [ho,hx,kQo,Option.map_none,hh,hmm,Instr.sliceAt,Sem.run_bind,Sem.run_pure,run_underlying ht,Result.andThen_ok,cut_max t e ht hi hsz A n c m hm W,Result.andThen_ok]
end Go.Proofs.YtlocplkjokoknaaGreat
namespace Go.Proofs.YtlocplkjokoknaaGreat
open Go.RowKit
attribute [local go_sem ↓] Go.wp_at_zero Go.wp_at_succ
theorem orxor_ex (u a b:UInt8):∃z y:UInt8,Hid (z=u ||| (a ^^^ b))∧bits .xor .u8 (a.toNat:Int) (b.toNat:Int)=(y.toNat:Int)∧bits .or .u8 (u.toNat:Int) (y.toNat:Int)=(z.toNat:Int):=by
 refine⟨_,a ^^^ b,rfl,u8_xor' a b,?_⟩
 rw[u8_or_nat _ _ u.toNat_lt (a ^^^ b).toNat_lt,UInt8.toNat_or]
theorem orxor_zero (u a b:UInt8):u ||| (a ^^^ b)=0↔u=0∧a=b:=by
 constructor
 ·intro h
  have h1:u=0:=by
   apply UInt8.toNat_inj.1
   have:=congrArg UInt8.toNat h
   rw[UInt8.toNat_or]at this
   exact(Nat.or_eq_zero_iff.1 this).1
  have h2:a ^^^ b=0:=by
   apply UInt8.toNat_inj.1
   have:=congrArg UInt8.toNat h
   rw[UInt8.toNat_or]at this
   exact(Nat.or_eq_zero_iff.1 this).2
  exact⟨h1,UInt8.xor_eq_zero_iff.1 h2⟩
 ·rintro⟨rfl,rfl⟩
  simp
theorem take_succ_eq (a b:List UInt8) (j:Nat) (ha:j<a.length) (hb:j<b.length):(a.take (j+1)=b.take (j+1))↔(a.take j=b.take j∧a.getD j 0=b.getD j 0):=by
 rw[List.take_add_one,List.take_add_one,kQi ha,kQi hb]
 simp only [kQa,kQi ha,kQi hb,Option.toList,Option.getD_some]
 constructor
 ·intro h
  have:=List.append_inj h (by simp;omega)
  exact⟨this.1,by simpa using this.2⟩
 ·rintro⟨h1,h2⟩
  rw[h1,h2]
theorem equal_any (w:World) (A:Option Addr) (n c:Nat) (a:List UInt8) (hn:a.length=n) (hR:RdB w A a) (A2:Option Addr) (n2 c2:Nat) (b:List UInt8) (hn2:b.length=n2) (hR2:RdB w A2 b) (hb:n≤140737488355328) (hb2:n2≤140737488355328) :
  Calls Tryz.prog 80 #[.slice A n c,.slice A2 n2 c2] w fun e w'=>e=.returned (.bool (decide (a=b)))∧Below w.heap.size w w':=by
 have HN:=Lh hn
 have HR:=Lh hR
 have HN2:=Lh hn2
 have HR2:=Lh hR2
 clear hn hR hn2 hR2
 go_enter Tryz.func80,Tryz.ntmps80
 by_cases he:n=n2
 ·have hE:decide ((n:Int)=(n2:Int))=true:=by simp;omega
  have hE2:((n:Int) != (n2:Int))=false:=by simp;omega
  have NE:=Lh he
  clear he
  go_wp2_with fail
  clear hE hE2
  go_loopw [5,6,14] (fun u _ i wr=>∃(j:Nat) (x:UInt8),j≤n∧i=.int .i64 (j:Int)∧u=.int .u8 (x.toNat:Int)∧(x=0↔a.take j=b.take j)∧Below w.heap.size w wr) (fun _ _ i _=>n-(intOf i).toNat)
  case atStart=>exact⟨0,0,by omega,rfl,rfl,by simp,Below.refl _ _⟩
  case round=>
   obtain⟨j,x,hj,rfl,rfl,hx,hbel⟩:=hrel
   have J:=Lh hj
   have X:=Lh hx
   have BL:=Lh hbel
   clear hj hx hbel
   by_cases hlt:j<n
   ·have hD:decide ((j:Int)<(n:Int))=true:=by simp;omega
    obtain⟨b1,o1,rfl,h1⟩:=(HR.out.keep BL.out) j (by rw [HN.out];exact hlt)
    obtain⟨b2,o2,rfl,h2⟩:=(HR2.out.keep BL.out) j (by rw [HN2.out];have:=NE.out;omega)
    obtain⟨y,hy⟩:∃y,y=a.getD j 0:=⟨_,rfl⟩
    obtain⟨v,hv⟩:∃y,y=b.getD j 0:=⟨_,rfl⟩
    rw[←hy]at h1
    rw[←hv]at h2
    have Y:=Lh hy
    have V:=Lh hv
    obtain⟨z,t,hz,e1,e2⟩:=orxor_ex x y v
    have c1:=Lh h1
    have c2:=Lh h2
    have l1:(j:Int)<(n:Int):=by omega
    have l2:(j:Int)<(n2:Int):=by have:=NE.out;omega
    clear hy hv h1 h2
    go_upto_region 7 with fail
    have S1:=Lh (show(wr.drew).cell? ⟨b1,o1+j,none⟩=some (.int .u8 (y.toNat:Int))∧(wr.drew).cell? ⟨b2,o2+j,none⟩=some (.int .u8 (v.toNat:Int))from⟨c1.out,c2.out⟩)
    refine qQu (fun W=>W.cell? ⟨b1,o1+j,none⟩=some (.int .u8 (y.toNat:Int))∧W.cell? ⟨b2,o2+j,none⟩=some (.int .u8 (v.toNat:Int))) [(true,0),(true,1),(true,2),(true,3),(true,4),(true,5),(true,6),(true,7),(true,8),(true,9),(true,10),(true,11)] (by kernel_rfl) (by kernel_rfl) (fun _ _ d _ _ h=>by cases d<;>exact h) ?_
    simp only [kQl,kQm,kQd,kQg,kQe,kQo]
    refine qQc (by rfl) S1.out (fun W hW=>by go_simp;rfl) ?_
    simp only [Act.put,pq1,pq2,pq3]
    refine qQc (by rfl) S1.out (fun W hW=>by go_simp;rfl) ?_
    simp only [Act.put,pq1,pq2,pq3]
    refine qQc (by rfl) S1.out (fun W hW=>by go_simp;rfl) ?_
    simp only [Act.put,pq1,pq2,pq3]
    refine qQc (by rfl) S1.out (fun W hW=>by go_simp;rfl) ?_
    simp only [Act.put,pq1,pq2,pq3]
    refine qQc (by rfl) S1.out (fun W hW=>qQq 5 (.tmp 20) rfl _ Tryz.underlying5 rfl rfl hW.1) ?_
    simp only [Act.put,pq1,pq2,pq3]
    refine qQc (by rfl) S1.out (fun W hW=>by go_simp;rfl) ?_
    simp only [Act.put,pq1,pq2,pq3]
    refine qQc (by rfl) S1.out (fun W hW=>by go_simp;rfl) ?_
    simp only [Act.put,pq1,pq2,pq3]
    refine qQc (by rfl) S1.out (fun W hW=>by go_simp;rfl) ?_
    simp only [Act.put,pq1,pq2,pq3]
    refine qQc (by rfl) S1.out (fun W hW=>qQq 5 (.tmp 24) rfl _ Tryz.underlying5 rfl rfl hW.2) ?_
    simp only [Act.put,pq1,pq2,pq3]
    refine qQc (by rfl) S1.out (fun W hW=>by go_simp;rfl) ?_
    simp only [Act.put,pq1,pq2,pq3]
    refine qQc (by rfl) S1.out (fun W hW=>by go_simp;rfl) ?_
    simp only [Act.put,pq1,pq2,pq3]
    refine qQc (by rfl) S1.out (fun W hW=>by go_simp;rfl) ?_
    simp only [Act.put,pq1,pq2,pq3]
    refine qQG ?_
    go_wp2_with fail
    go_roundw
    case rel=>exact⟨j+1,z,by omega,by go_num,rfl,by rw [hz.out,orxor_zero,X.out,Y.out,V.out,take_succ_eq a b j (by rw [HN.out];exact hlt) (by rw [HN2.out];have:=NE.out;omega)],BL.out.drew⟩
    case measure=>simp [intOf];omega
   ·have hjn:Hid (j=n):=show j=n by have:=J.out;omega
    have hD:decide ((j:Int)<(n:Int))=false:=by simp;omega
    have FX:=Lh (show x=0↔a=b by
     have:=X.out
     rwa [hjn.out,kQn (by rw [HN.out];omega),kQn (by rw [HN2.out];have:=NE.out;omega)]at this)
    by_cases hx0:x=0
    ·have hF:((x.toNat:Int)==0)=true:=by simp [hx0]
     have hG:=Lh (show decide (a=b)=true by simp;exact FX.out.1 hx0)
     go_wp2_with fail
     go_ret
     exact⟨by rw [hG.out];rfl,BL.out⟩
    ·have hF:((x.toNat:Int)==0)=false:=by
      simp only [beq_eq_false_iff_ne,ne_eq]
      intro h
      exact hx0 (UInt8.toNat_inj.1 (by show x.toNat=0;omega))
     have hG:=Lh (show decide (a=b)=false by simp;exact fun h=>hx0 (FX.out.2 h))
     go_wp2_with fail
     go_ret
     exact⟨by rw [hG.out];rfl,BL.out⟩
 ·have hE:decide ((n:Int)=(n2:Int))=false:=by simp;omega
  have hE2:((n:Int) != (n2:Int))=true:=by simp;omega
  have hG:decide (a=b)=false:=by simp;intro h;apply he;rw [←HN.out,←HN2.out,h]
  rw[hG]
  go_wp2_with fail
  go_ret
  exact⟨rfl,Below.refl _ _⟩
end Go.Proofs.YtlocplkjokoknaaGreat
namespace Go.Proofs.YtlocplkjokoknaaGreat
open Go.RowKit
section
variable {P:Program} {ops:Array Oper} {Q:Exit→Act→World→Prop} {S:World→Prop} {D:Option Tmp→Bool}
theorem qWr (hQ:∀c a d v w,D d=true→Q (.panic c) (Act.put a d v) w→Q (.panic c) a w) (hD:∀(i:Nat) (o:Oper),ops[i]?=some o→D o.dst=true) (hs:Region.noSelect ops=true):∀(T:List (Bool×Nat)) (S:World→Prop) (fuel:Nat) (L:Array Bool) (a:Act) (w:World),T.length≤fuel→qVb ops T L=true→
  qVW P ops Q S (T.filterMap fun i=>(ops[i.2]?).map fun o=>(i.1,o)) a w→wpAnyH P .any ops Q S fuel L a w
 | [],S,fuel,L,a,w,_,hB,h=>by
  simp only [qVb,List.isEmpty_iff]at hB
  exact wpAnyH_done hB h fuel
 | (true,i)::T,S,fuel,L,a,w,hf,hB,h=>by
  simp only [qVb,Bool.and_eq_true]at hB
  obtain⟨⟨⟨hi,hfr⟩,hr⟩,hB'⟩:=hB
  obtain⟨o,ho⟩:=Option.isSome_iff_exists.1 hi
  obtain⟨fuel,rfl⟩:∃m,fuel=m+1:=⟨fuel-1,by simp at hf;omega⟩
  have e:((true,i)::T).filterMap (fun i=>(ops[i.2]?).map fun o=>(i.1,o))=(true,o)::T.filterMap fun i=>(ops[i.2]?).map fun o=>(i.1,o):=by simp [ho]
  rw[e]at h
  obtain⟨S',hSS,hS,v,hy,h'⟩:=h
  exact qQ0 hSS _ _ _ _ (wpAnyH_take ho hs hfr hr (fun c a w hh=>hQ c a _ _ w (hD i o ho) hh) hy hS (qWr hQ hD hs T S' fuel _ _ w (by simp at hf ⊢;omega) hB' h'))
 | (false,i)::T,S,fuel,L,a,w,hf,hB,h=>by
  simp only [qVb,Bool.and_eq_true]at hB
  obtain⟨⟨hi,hr0⟩,hB'⟩:=hB
  have hr:Region.ready .any ops L=[i]:=by
   split at hr0
   ·rename_i j hj
    rw[hj,kQr hr0]
   ·cases hr0
  obtain⟨o,ho⟩:=Option.isSome_iff_exists.1 hi
  obtain⟨fuel,rfl⟩:∃m,fuel=m+1:=⟨fuel-1,by simp at hf;omega⟩
  have e:((false,i)::T).filterMap (fun i=>(ops[i.2]?).map fun o=>(i.1,o))=(false,o)::T.filterMap fun i=>(ops[i.2]?).map fun o=>(i.1,o):=by simp [ho]
  rw[e]at h
  obtain⟨S',hSS,h⟩:=h
  refine qQ0 hSS _ _ _ _ (wpAnyH_all hr (by simp) ?_)
  intro j hj
  obtain rfl:j=i:=by simpa using hj
  unfold wpOp
  simp only [ho]
  split
  ·rename_i hw
   rw[if_pos hw]at h
   refine .inl ?_
   exact Oper.wp_mono (fun a' w' hh=>⟨hh.1,qWr hQ hD hs T S' fuel _ a' w' (by simp at hf;omega) hB' hh.2⟩) h
  ·rename_i hw
   rw[if_neg hw]at h
   exact⟨h.1,qWr hQ hD hs T S' fuel _ _ w (by simp at hf;omega) hB' h.2⟩
theorem all_dst {l:List Oper} (h:l.all (fun o=>D o.dst)=true):∀(i:Nat) (o:Oper),l.toArray[i]?=some o→D o.dst=true:=by
 intro i o ho
 rw[kQd]at ho
 exact List.all_eq_true.1 h o (kQu ho)
theorem qX7 {id:Nat} {l:List Oper} {a:Act} {w:World} (D:Option Tmp→Bool) (hD:l.all (fun o=>D o.dst)=true) (S:World→Prop) (T:List (Bool×Nat)) (hm:P.follows .mixedOrders=true)
  (hB:(qVb l.toArray T (Array.replicate l.toArray.size false)&&Region.noSelect l.toArray&&Nat.ble T.length l.toArray.size)=true)
  (hQ:∀c a d v w,D d=true→Q (.panic c) (Act.put a d v) w→Q (.panic c) a w)
  (h:qVW P l.toArray Q S (T.filterMap fun i=>(l.toArray[i.2]?).map fun o=>(i.1,o)) a w.drew):(Code.region id l.toArray true).wp P Q a w:=by
 simp only [Bool.and_eq_true]at hB
 exact wp_region_held hm (qWr hQ (all_dst hD) hB.1.2 T S _ _ a w.drew (Nat.le_of_ble_eq_true hB.2) hB.1.1 h)
theorem road_soundD (hQ:∀c a d v w,D d=true→Q (.panic c) (Act.put a d v) w→Q (.panic c) a w) (hD:∀(i:Nat) (o:Oper),ops[i]?=some o→D o.dst=true) (hs:Region.noSelect ops=true):∀(T:Road) (S:World→Prop) (fuel:Nat) (L:Array Bool) (a:Act) (w:World),qXT T≤fuel→qWD ops T L=true→
  road P ops Q S T a w→wpAnyH P .any ops Q S fuel L a w:=by
 intro T
 induction T with
 | done=>
  intro S fuel L a w _ hB h
  simp only [qWD,List.isEmpty_iff]at hB
  exact wpAnyH_done hB h fuel
 | q i T ih=>
  intro S fuel L a w hf hB h
  simp only [qWD,Bool.and_eq_true]at hB
  obtain⟨⟨⟨hi,hfr⟩,hr⟩,hB'⟩:=hB
  simp only [qXT]at hf
  obtain⟨fuel,rfl⟩:∃m,fuel=m+1:=⟨fuel-1,by omega⟩
  obtain⟨S',hSS,hS,o,ho,v,hy,h'⟩:=h
  exact qQ0 hSS _ _ _ _ (wpAnyH_take ho hs hfr hr (fun c a w hh=>hQ c a _ _ w (hD _ _ ho) hh) hy hS (ih S' fuel _ _ w (by omega) hB' h'))
 | t i T ih=>
  intro S fuel L a w hf hB h
  simp only [qWD,Bool.and_eq_true]at hB
  obtain⟨⟨hi,hr0⟩,hB'⟩:=hB
  have hr:Region.ready .any ops L=[i]:=by
   split at hr0
   ·rename_i j hj
    rw[hj,kQr hr0]
   ·cases hr0
  simp only [qXT]at hf
  obtain⟨fuel,rfl⟩:∃m,fuel=m+1:=⟨fuel-1,by omega⟩
  obtain⟨S',hSS,h⟩:=h
  refine qQ0 hSS _ _ _ _ (wpAnyH_all hr (by simp) ?_)
  intro j hj
  obtain rfl:j=i:=by simpa using hj
  exact qZq h (fun a w h=>ih S' fuel _ a w (by omega) hB' h)
 | two i T j U ihT ihU=>
  intro S fuel L a w hf hB h
  simp only [qWD,Bool.and_eq_true]at hB
  obtain⟨⟨⟨_,hr0⟩,hT⟩,hU⟩:=hB
  have hr:Region.ready .any ops L=[i,j]:=by
   split at hr0
   ·rename_i a b hj
    simp only [Bool.and_eq_true]at hr0
    rw[hj,kQr hr0.1,kQr hr0.2]
   ·cases hr0
  simp only [qXT]at hf
  obtain⟨fuel,rfl⟩:∃m,fuel=m+1:=⟨fuel-1,by omega⟩
  obtain⟨S',hSS,h1,h2⟩:=h
  refine qQ0 hSS _ _ _ _ (wpAnyH_all hr (by simp) ?_)
  intro k hk
  simp only [List.mem_cons,List.not_mem_nil,or_false]at hk
  rcases hk with rfl|rfl
  ·exact qZq h1 (fun a w h=>ihT S' fuel _ a w (by omega) hT h)
  ·exact qZq h2 (fun a w h=>ihU S' fuel _ a w (by omega) hU h)
 | three i T j U k V ihT ihU ihV=>
  intro S fuel L a w hf hB h
  simp only [qWD,Bool.and_eq_true]at hB
  obtain⟨⟨⟨⟨_,hr0⟩,hT⟩,hU⟩,hV⟩:=hB
  have hr:Region.ready .any ops L=[i,j,k]:=by
   split at hr0
   ·rename_i a b c hj
    simp only [Bool.and_eq_true]at hr0
    rw[hj,kQr hr0.1.1,kQr hr0.1.2,kQr hr0.2]
   ·cases hr0
  simp only [qXT]at hf
  obtain⟨fuel,rfl⟩:∃m,fuel=m+1:=⟨fuel-1,by omega⟩
  obtain⟨S',hSS,h1,h2,h3⟩:=h
  refine qQ0 hSS _ _ _ _ (wpAnyH_all hr (by simp) ?_)
  intro m hm
  simp only [List.mem_cons,List.not_mem_nil,or_false]at hm
  rcases hm with rfl|rfl|rfl
  ·exact qZq h1 (fun a w h=>ihT S' fuel _ a w (by omega) hT h)
  ·exact qZq h2 (fun a w h=>ihU S' fuel _ a w (by omega) hU h)
  ·exact qZq h3 (fun a w h=>ihV S' fuel _ a w (by omega) hV h)
theorem qKB {id:Nat} {l:List Oper} {a:Act} {w:World} (D:Option Tmp→Bool) (hD:l.all (fun o=>D o.dst)=true) (S:World→Prop) (T:Road) (hm:P.follows .mixedOrders=true)
  (hB:(qWD l.toArray T (Array.replicate l.toArray.size false)&&Region.noSelect l.toArray&&Nat.ble (qXT T) l.toArray.size)=true)
  (hQ:∀c a d v w,D d=true→Q (.panic c) (Act.put a d v) w→Q (.panic c) a w)
  (h:road P l.toArray Q S T a w.drew):(Code.region id l.toArray true).wp P Q a w:=by
 simp only [Bool.and_eq_true]at hB
 exact wp_region_held hm (road_soundD hQ (all_dst hD) hB.1.2 T S _ _ a w.drew (Nat.le_of_ble_eq_true hB.2) hB.1.1 h)
end
theorem qJg {P:Program} {fn:Func} {t1 t2:Array Value} {R:Ending→World→Prop} (hr:results fn t1=results fn t2):∀(ds:List Deferred) (u:FrameMode) (w:World),Leaves P fn t1 R ds u w→Leaves P fn t2 R ds u w
 | [],.returning,w,h=>by
  unfold Leaves at h ⊢
  rw[←hr]
  exact h
 | [],.panicking _,w,h=>by
  unfold Leaves at h ⊢
  exact h
 | [],.run,w,h=>by
  unfold Leaves at h
  exact h.elim
 | d::ds,u,w,h=>by
  unfold Leaves at h ⊢
  obtain⟨h1,fv,cap,f,args,h2,h3,h4⟩:=h
  refine⟨h1,fv,cap,f,args,h2,h3,h4.mono ?_⟩
  intro e u' w' hh
  cases e with
  | returned v=>exact qJg hr ds _ _ hh
  | panicked c=>exact qJg hr ds _ _ hh
  | outgrown=>exact hh
theorem qKx {P:Program} {fn:Func} {R:Ending→World→Prop} {c:List PanicEntry} {a:Act} {d:Option Tmp} {v:Value} {w:World} (hr:results fn (a.put d v).tmps=results fn a.tmps) (h:bodyPostD P fn R (.panic c) (a.put d v) w):bodyPostD P fn R (.panic c) a w:=by
 have hd:(a.put d v).defers=a.defers:=by cases d<;>rfl
 have h':Leaves P fn (a.put d v).tmps R (a.put d v).defers (.panicking c) w:=h
 rw[hd]at h'
 exact qJg hr _ _ _ h'
end Go.Proofs.YtlocplkjokoknaaGreat
namespace Go.Proofs.YtlocplkjokoknaaGreat
open Go.RowKit
attribute [local go_sem ↓] Go.wp_at_zero Go.wp_at_succ
def qWO (k n beside sealed:List UInt8):Option (List UInt8):=
 if sealed.length<16 then none else if tagL k n beside (sealed.take (sealed.length-16))=sealed.drop (sealed.length-16)then some (qQY k n 1 (sealed.take (sealed.length-16)))else none
def OpenP (w:World) (r:Option (List UInt8)) (e:Ending) (w':World):Prop:=
 (match r with|some t=>∃v,e=.returned (.tuple #[v,.bool true])∧OwnB w' w.heap.size v t|none=>e=.returned (.tuple #[.slice none 0 0,.bool false]))∧Below w.heap.size w w'
structure OpW (w:World) (k n:List UInt8) (W:World):Prop where
 bk:W.heap[w.heap.size]?=some (.cells (W8 k) 38 (0,0))
 bn:W.heap[w.heap.size+1]?=some (.cells (W8 n) 128 (0,0))
 bt:W.heap[w.heap.size+1+1]?=some (.cells #[.slice none 0 0] 22 (0,0))
 bo:W.heap[w.heap.size+1+1+1]?=some (.cells #[.bool false] 4 (0,0))
 bel:Below w.heap.size w W
theorem OpW.lt {w W:World} {k n:List UInt8} (h:OpW w k n W):w.heap.size+1+1+1<W.heap.size:=qQe h.bo
theorem OpW.keep {w W W':World} {k n:List UInt8} (h:OpW w k n W) (hb:Below W.heap.size W W'):OpW w k n W':=
 have:=h.lt
 ⟨qQb hb (by omega) h.bk,qQb hb (by omega) h.bn,qQb hb (by omega) h.bt,qQb hb (by omega) h.bo,h.bel.trans (hb.mono (by omega))⟩
theorem OpW.grow {w W W':World} {k n:List UInt8} {M:Nat} (h:OpW w k n W) (hg:W.grownBy W' (some M)) (hM:w.heap.size+1+1+1<M):OpW w k n W':=
 ⟨qQd hg (by simp;omega) h.bk,qQd hg (by simp;omega) h.bn,qQd hg (by simp;omega) h.bt,qQd hg (by simp;omega) h.bo,h.bel.trans (qQi hg h.bel.size (by rintro g ⟨⟩;omega))⟩
theorem op_start (w:World) (k n:List UInt8):OpW w k n ((((w.alloc (.cells (W8 k) 38)).alloc (.cells (W8 n) 128)).alloc (.cells #[.slice none 0 0] 22)).alloc (.cells #[.bool false] 4)) where
 bk:=qQM _ _ _ (by simp<;>omega) (qQM _ _ _ (by simp<;>omega) (qQM _ _ _ (by simp) (qQk _ _ _ rfl)))
 bn:=qQM _ _ _ (by simp<;>omega) (qQM _ _ _ (by simp) (qQk _ _ _ (by simp)))
 bt:=qQM _ _ _ (by simp) (qQk _ _ _ (by simp))
 bo:=qQk _ _ _ (by simp)
 bel:=(((((Below.refl _ _).alloc (kQh _) _).alloc (by simp) _).alloc (by simp<;>omega) _)).alloc (by simp<;>omega) _
def D89:Option Tmp→Bool
 | none=>true
 | some x=>!(x==8)&&!(x==9)
theorem put_89 {a:Act} {d:Option Tmp} {v:Value} (hd:D89 d=true):results Tryz.f59 (a.put d v).tmps=results Tryz.f59 a.tmps:=by
 cases d with
 | none=>rfl
 | some x=>
  simp [D89]at hd
  have h8:∀(t:Array Value),(t.setIfInBounds x v).getD 8 undef=t.getD 8 undef:=fun t=>by simp [Array.getElem?_setIfInBounds,hd.1]
  have h9:∀(t:Array Value),(t.setIfInBounds x v).getD 9 undef=t.getD 9 undef:=fun t=>by simp [Array.getElem?_setIfInBounds,hd.2]
  unfold results
  simp only [Tryz.results59,Act.put]
  simp [Array.getElem?_setIfInBounds,hd.1,hd.2]
theorem qYE {w W:World} {k n:List UInt8} (S:OpW w k n W) (u:TypeId) (pv:Value) (tmps:Array Value) (h8:tmps[8]?.getD undef=.pointer (some ⟨w.heap.size+1+1,0,none⟩)) (h9:tmps[9]?.getD undef=.pointer (some ⟨w.heap.size+1+1+1,0,none⟩)) :
  bodyPostD Tryz.prog Tryz.f59 (OpenP w none) (Exit.panic [{ v:=.iface u pv,recovered:=false }]) { tmps:=tmps,defers:=[{ target:=Target.fn (Fn.func 77) #[.pointer (some ⟨w.heap.size+1+1,0,none⟩),.pointer (some ⟨w.heap.size+1+1+1,0,none⟩)],args:=#[] }] } W:=by
 refine leaves_cons (f:=77) (args:=#[.pointer (some ⟨w.heap.size+1+1,0,none⟩),.pointer (some ⟨w.heap.size+1+1+1,0,none⟩)]) (by simp) (by simp [go_sem]) ?_
 refine(qYb ⟨w.heap.size+1+1,0,none⟩ ⟨w.heap.size+1+1+1,0,none⟩ _ _ (by simp) u pv [] W (qQg S.bt 0 rfl) (qQz S.bt 0) (qQg S.bo 0 rfl) (qQz S.bo 0)).mono ?_
 rintro e u' w'' ⟨rfl,rfl,rfl⟩
 obtain⟨W1,hW1⟩:∃W1,W1=W.setCell ⟨w.heap.size+1+1,0,none⟩ (.slice none 0 0):=⟨_,rfl⟩
 rw[←hW1]
 have t1:W1.heap[w.heap.size+1+1]?=some (.cells #[.slice none 0 0] 22 (0,0)):=by rw [hW1,heap_setCell_same _ _ _ _ _ _ S.bt];rfl
 have g1:W.grownBy W1 (some (w.heap.size+1+1)):=by rw [hW1];exact qQF (World.grownBy.refl _ _) _ _
 have o1:W1.heap[w.heap.size+1+1+1]?=some (.cells #[.bool false] 4 (0,0)):=qQd g1 (by simp) S.bo
 obtain⟨W2,hW2⟩:∃W2,W2=W1.setCell ⟨w.heap.size+1+1+1,0,none⟩ (.bool false):=⟨_,rfl⟩
 rw[←hW2]
 have g2:W1.grownBy W2 (some (w.heap.size+1+1+1)):=by rw [hW2];exact qQF (World.grownBy.refl _ _) _ _
 have cA:W2.cell? ⟨w.heap.size+1+1,0,none⟩=some (.slice none 0 0):=qQg (qQd g2 (by simp) t1) 0 rfl
 have cB:W2.cell? ⟨w.heap.size+1+1+1,0,none⟩=some (.bool false):=qQg (t:=4) (fr:=(0,0)) (cs:=#[.bool false]) (by rw [hW2,heap_setCell_same _ _ _ _ _ _ o1];rfl) 0 rfl
 have hB:Below w.heap.size w W2:=S.bel.trans ((qQi g1 S.bel.size (by rintro k ⟨⟩;omega)).trans (qQi g2 (kQk S.bel.size g1.size) (by rintro k ⟨⟩;omega)))
 clear hW1 hW2 t1 g1 o1 g2
 refine⟨.tuple #[.slice none 0 0,.bool false],?_,rfl,hB⟩
 simp [settle,results,Tryz.results59,h8,h9,go_sem,cA,cB]
theorem open_stands {w W:World} {t:List UInt8} {v:Value} (cA:W.cell? ⟨w.heap.size+1+1,0,none⟩=some v) (cB:W.cell? ⟨w.heap.size+1+1+1,0,none⟩=some (.bool true)) (hO:OwnB W w.heap.size v t) (hB:Below w.heap.size w W)
  (tmps:Array Value) (h8:tmps[8]?.getD undef=.pointer (some ⟨w.heap.size+1+1,0,none⟩)) (h9:tmps[9]?.getD undef=.pointer (some ⟨w.heap.size+1+1+1,0,none⟩)) :
  bodyPostD Tryz.prog Tryz.f59 (OpenP w (some t)) Exit.ret { tmps:=tmps,defers:=[{ target:=Target.fn (Fn.func 77) #[.pointer (some ⟨w.heap.size+1+1,0,none⟩),.pointer (some ⟨w.heap.size+1+1+1,0,none⟩)],args:=#[] }] } W:=by
 refine leaves_cons (f:=77) (args:=#[.pointer (some ⟨w.heap.size+1+1,0,none⟩),.pointer (some ⟨w.heap.size+1+1+1,0,none⟩)]) (by simp) (by simp [go_sem]) ?_
 refine(catch_idle ⟨w.heap.size+1+1,0,none⟩ ⟨w.heap.size+1+1+1,0,none⟩ W).mono ?_
 rintro e u' w'' ⟨rfl,rfl,rfl⟩
 refine⟨.tuple #[v,.bool true],?_,⟨v,rfl,hO⟩,hB⟩
 simp [settle,results,Tryz.results59,h8,h9,go_sem,cA,cB]
theorem open_go (k n:List UInt8) (hk:k.length=32) (hn:n.length=12) (w:World) (A:Option Addr) (q c:Nat) (l:List UInt8) (hq:l.length=q) (hR:RdB w A l) (A2:Option Addr) (q2 c2:Nat) (l2:List UInt8) (hq2:l2.length=q2) (hc2:q2≤c2) (hR2:RdB w A2 l2) (hl:q≤70000) (hl2:q2≤70000) :
  Calls Tryz.prog 59 #[.agg (W8 k),.agg (W8 n),.slice A q c,.slice A2 q2 c2] w (OpenP w (qWO k n l l2)):=by
 have TB:=Lh (show qXA Tryz.prog from⟨Tryz.underlying22,by kernel_rfl⟩)
 have HK:=Lh hk
 have HN:=Lh hn
 have HQ:=Lh hq
 have HQ2:=Lh hq2
 have HR:=Lh hR
 have HR2:=Lh hR2
 have HC2:=Lh hc2
 have ZK:=Lh (show(Tryz.prog.info? 38).map (·.size)=some (W8 k).size by rw [qQw,hk];kernel_rfl)
 have ZN:=Lh (show(Tryz.prog.info? 128).map (·.size)=some (W8 n).size by rw [qQw,hn];kernel_rfl)
 have QB:=Lh (And.intro hl hl2)
 obtain⟨i0,hi0,hz0,hz1,hz2⟩:=info_parts (show(Tryz.prog.info? 5).map (fun i=>(i.zero,i.size,i.bytes))=some (some (.int .u8 0),1,1) by kernel_rfl)
 have I0:=Lh hi0
 have I1:=Lh hz1
 have hmf:∀(fn:Fn) (first cap:Array Value) (w:World),(Instr.makeFunc fn first cap).run Tryz.prog w=.ok (.func fn first cap) w:=fun _ _ _ _=>rfl
 have q2b:(q2:Int)≤70000:=by omega
 clear hk hn hq hq2 hR hR2 hl hl2 hc2 hi0 hz0 hz1 hz2
 by_cases h16:q2<16
 ·have OE:=Lh (show qWO k n l l2=none by rw [qWO,if_pos (by rw [HQ2.out];exact h16)])
  have hD:decide ((16:Int)≤(q2:Int))=false:=by simp;omega
  rw[OE.out]
  go_enter_defers Tryz.func59,Tryz.ntmps59
  go_wp2_with fail
  clear hD
  generalize hw:World.alloc _ _=w1
  have S:=Lh (show OpW w k n w1 by rw [←hw];exact op_start w k n)
  clear hw
  refine(qYH _).mono ?_
  rintro e w2 ⟨ht,hw⟩
  rw[hw]
  obtain⟨u,pv,rfl⟩:=ht
  exact qYE S.out u pv _ rfl rfl
 ·have hD:decide ((16:Int)≤(q2:Int))=true:=by simp;omega
  obtain⟨at_,hat⟩:∃a,q2=a+16:=⟨q2-16,by omega⟩
  have e1:(q2:Int)-16=(at_:Int):=by omega
  have AE:=Lh hat
  obtain⟨r,hr⟩:∃r,r=qWO k n l l2:=⟨_,rfl⟩
  rw[←hr]
  have RE:=Lh hr
  clear hr hat h16
  go_enter_defers Tryz.func59,Tryz.ntmps59
  go_wp2_with fail
  generalize hw:World.alloc _ _=w1
  have S:=Lh (show OpW w k n w1 by rw [←hw];exact op_start w k n)
  clear hw hD e1
  refine(must_true _).mono ?_
  rintro e w2 ⟨rfl,hw⟩
  rw[hw]
  clear hw w2
  obtain⟨X,hX⟩:∃X,X=l2.take at_:=⟨_,rfl⟩
  obtain⟨T,hT⟩:∃T,T=tagL k n l X:=⟨_,rfl⟩
  obtain⟨Y,hY⟩:∃Y,Y=l2.drop at_:=⟨_,rfl⟩
  have XL:=Lh (show X.length=at_ by rw [hX,kQp,HQ2.out,AE.out];omega)
  have YL:=Lh (show Y.length=16 by rw [hY,kQv,HQ2.out,AE.out];omega)
  have TL:=Lh (show T.length=16 by rw [hT,qXq])
  have ZT:=Lh (show(Tryz.prog.info? 155).map (·.size)=some (W8 T).size by rw [qQw,TL.out];kernel_rfl)
  have RE:=Lh (show r=if T=Y then some (qQY k n 1 X)else none by
   rw[RE.out,qWO,if_neg (by rw [HQ2.out,AE.out];omega),hT,hY,hX,show l2.length-16=at_ by rw [HQ2.out,AE.out];omega])
  have RX:=Lh (show RdB w A2 X by rw [hX];exact HR2.out.take _)
  have TE:=Lh hT
  have YE:=Lh hY
  have ZZ:=Lh qKz
  have AB:=Lh (show at_≤70000 by have:=QB.out;have:=AE.out;omega)
  have AC:=Lh (show at_≤c2 by have:=HC2.out;have:=AE.out;omega)
  clear hX hT hY
  go_upto_region 4 with fail
  go_cut [11]from 19 to 26 (fun v wx=>∃M,v=.pointer (some ⟨M,0,none⟩)∧wx.heap[M]?=some (.cells (W8 T) 155 (0,0))∧OpW w k n wx)
  case first=>
   refine qKB D89 (by kernel_rfl) (fun W=>OpW w k n W) (.q 0 (.q 1 (.q 2 (.q 3 (.q 4 (.q 5 (.q 6 (.two 7 (.t 8 (.t 9 .done)) 8 (.t 7 (.t 9 .done)))))))))) (by kernel_rfl) (by kernel_rfl) (fun _ _ d _ _ hd h=>qKx (put_89 hd) h) ?_
   have S:=Lh (S.out.keep (Below.refl _ _).drew)
   generalize World.drew w1=w3 at *
   refine qQn rfl rfl S.out (fun W hW=>qQj 38 (.tmp 4) rfl w.heap.size rfl 38 (W8 k) (0,0) _ hW.bk Tryz.underlying38 rfl ZK.out) ?_
   simp only [Act.put,pq1,pq2,pq3]
   refine qQn rfl rfl S.out (fun W hW=>qQj 128 (.tmp 5) rfl (w.heap.size+1) rfl 128 (W8 n) (0,0) _ hW.bn Tryz.underlying128 rfl ZN.out) ?_
   simp only [Act.put,pq1,pq2,pq3]
   refine qQn rfl rfl S.out (fun W hW=>by go_simp;rfl) ?_
   simp only [Act.put,pq1,pq2,pq3]
   refine qQn rfl rfl S.out (fun W hW=>by go_simp;rfl) ?_
   simp only [Act.put,pq1,pq2,pq3]
   refine qQn rfl rfl S.out (fun W hW=>by go_simp;rfl) ?_
   simp only [Act.put,pq1,pq2,pq3]
   refine qQn rfl rfl S.out (fun W hW=>by go_simp;rfl) ?_
   simp only [Act.put,pq1,pq2,pq3]
   refine qQn rfl rfl S.out (fun W hW=>qKN 22 5 (.tmp 22) (.tmp 23) (.tmp 24) rfl Tryz.underlying22 I0.out I1.out A2 q2 c2 at_ AC.out rfl rfl rfl W) ?_
   simp only [Act.put,pq1,pq2,pq3]
   refine qZh ?_ ?_
   ·
    refine qQx rfl rfl (fun K hK=>?_)
    go_simp
    refine(tag_any k n HK.out HN.out _ A q c l HQ.out (HR.out.keep S.out.bel) A2 at_ at_ X XL.out (RX.out.keep S.out.bel) (by have:=QB.out;omega) (by have:=AB.out;omega)).mono ?_
    rw[←TE.out]
    rintro e w3 ⟨rfl,hb⟩
    have S:=Lh (S.out.keep hb)
    try have R:=Lh (qQb hb (qQe R.out) R.out)
    clear hb
    refine hK.out _ _ S.out ?_
    clear hK K
    refine qQx rfl rfl (fun K hK=>?_)
    go_simp
    rw[←ZZ.out]
    generalize hM:Array.size (World.heap w3)=M
    generalize hw:World.alloc w3 _=w8
    have MS:=Lh (show w.heap.size+1+1+1<M by rw [←hM];exact S.out.lt)
    have R:=Lh (show w8.heap[M]?=some (.cells (W8 Z16) 155 (0,0)) by rw [←hw];exact qQk _ _ _ hM.symm)
    have S:=Lh (show OpW w k n w8 by rw [←hw];exact S.out.keep (qQh _ _))
    clear hM hw
    refine hK.out _ _ S.out ?_
    clear hK K
    refine qQx rfl rfl (fun K hK=>?_)
    refine qQN 155 (.tmp 11) (.tmp 26) rfl M (W8 T) rfl rfl _ _ R.out ZT.out (by rw [qQw,qQw,TL.out];rfl) (qZg _) ?_
    intro w9 hz9 hg9 _
    have R:=Lh hz9
    have S:=Lh (S.out.grow hg9 MS.out)
    clear hz9 hg9
    refine hK.out _ _ S.out ?_
    clear hK K
    refine qQ8 ?_
    simp only [Act.put]
    go_wp2_with fail
    go_meet
    exact⟨M,rfl,R.out,S.out⟩
   ·
    refine qQx rfl rfl (fun K hK=>?_)
    go_simp
    rw[←ZZ.out]
    generalize hM:Array.size (World.heap w3)=M
    generalize hw:World.alloc w3 _=w8
    have MS:=Lh (show w.heap.size+1+1+1<M by rw [←hM];exact S.out.lt)
    have R:=Lh (show w8.heap[M]?=some (.cells (W8 Z16) 155 (0,0)) by rw [←hw];exact qQk _ _ _ hM.symm)
    have S:=Lh (show OpW w k n w8 by rw [←hw];exact S.out.keep (qQh _ _))
    clear hM hw
    refine hK.out _ _ S.out ?_
    clear hK K
    refine qQx rfl rfl (fun K hK=>?_)
    go_simp
    refine(tag_any k n HK.out HN.out _ A q c l HQ.out (HR.out.keep S.out.bel) A2 at_ at_ X XL.out (RX.out.keep S.out.bel) (by have:=QB.out;omega) (by have:=AB.out;omega)).mono ?_
    rw[←TE.out]
    rintro e w3 ⟨rfl,hb⟩
    have S:=Lh (S.out.keep hb)
    try have R:=Lh (qQb hb (qQe R.out) R.out)
    clear hb
    refine hK.out _ _ S.out ?_
    clear hK K
    refine qQx rfl rfl (fun K hK=>?_)
    refine qQN 155 (.tmp 11) (.tmp 26) rfl M (W8 T) rfl rfl _ _ R.out ZT.out (by rw [qQw,qQw,TL.out];rfl) (qZg _) ?_
    intro w9 hz9 hg9 _
    have R:=Lh hz9
    have S:=Lh (S.out.grow hg9 MS.out)
    clear hz9 hg9
    refine hK.out _ _ S.out ?_
    clear hK K
    refine qQ8 ?_
    simp only [Act.put]
    go_wp2_with fail
    go_meet
    exact⟨M,rfl,R.out,S.out⟩
  case rest=>
  obtain⟨M,rfl,hr,hs⟩:=hcut
  have R:=Lh hr
  have S:=Lh hs
  clear hr hs
  obtain⟨A',hX0,hcut,_⟩:=qVR (P:=Tryz.prog) 22 5 Tryz.underlying22 I0.out I1.out A2 q2 c2 at_ (by have:=AE.out;omega)
  rw[show q2-at_=16 by have:=AE.out;omega]at hX0
  have HX:=Lh hX0
  have RY:=Lh (show RdB w A' Y by rw [YE.out];exact hcut w l2 HQ2.out HC2.out HR2.out)
  clear hX0 hcut
  go_upto_region 5 with fail
  by_cases hTY:T=Y
  ·have hE:=Lh (show decide (T=Y)=true from decide_eq_true hTY)
   have RE:=Lh (show r=some (qQY k n 1 X) by rw [RE.out,if_pos hTY])
   clear hTY
   refine qX7 D89 (by kernel_rfl) (fun W=>OpW w k n W∧W.heap[M]?=some (.cells (W8 T) 155 (0,0))) [(true,0),(true,1),(true,2),(true,3),(false,4),(false,5)] (by kernel_rfl) (by kernel_rfl) (fun _ _ d _ _ hd h=>qKx (put_89 hd) h) ?_
   simp only [kQl,kQm,kQd,kQg,kQe,kQo]
   have S:=Lh (show OpW w k n wc.drew∧wc.drew.heap[M]?=some (.cells (W8 T) 155 (0,0))from⟨S.out.keep (Below.refl _ _).drew,R.out⟩)
   refine qQc (by rfl) S.out (fun W hW=>qXs 155 (.tmp 11) rfl 16 5 Tryz.underlying155 I0.out M rfl W) ?_
   simp only [Act.put,pq1,pq2,pq3]
   refine qQc (by rfl) S.out (fun W hW=>by go_simp;rfl) ?_
   simp only [Act.put,pq1,pq2,pq3]
   refine qQc (by rfl) S.out (fun W hW=>by go_simp;rfl) ?_
   simp only [Act.put,pq1,pq2,pq3]
   refine qQc (by rfl) S.out (fun W hW=>qVo 22 (.tmp 28) (.tmp 29) rfl Tryz.underlying22 HX.out rfl rfl W) ?_
   simp only [Act.put,pq1,pq2,pq3]
   refine qQE (by rfl) (fun K hK=>?_)
   go_simp
   refine(equal_any _ (some ⟨M,0,none⟩) 16 16 T TL.out (RdB.row S.out.2) A' 16 (c2-at_) Y YL.out (RY.out.keep S.out.1.bel) (by omega) (by omega)).mono ?_
   rw[hE.out]
   rintro e w4 ⟨rfl,hb⟩
   have S:=Lh (show OpW w k n w4∧w4.heap[M]?=some (.cells (W8 T) 155 (0,0))from⟨S.out.1.keep hb,qQb hb (qQe S.out.2) S.out.2⟩)
   clear hb
   refine hK.out _ _ S.out ?_
   clear hK K
   refine qQE (by rfl) (fun K hK=>?_)
   go_simp
   refine(must_true _).mono ?_
   rintro e w5 ⟨rfl,hw⟩
   rw[hw]
   clear hw w5
   refine hK.out _ _ S.out ?_
   clear hK K
   refine qQG ?_
   go_upto_region 6 with fail
   refine qX7 D89 (by kernel_rfl) (fun W=>W.heap[w.heap.size]?=some (.cells (W8 k) 38 (0,0))∧W.heap[w.heap.size+1]?=some (.cells (W8 n) 128 (0,0))) [(true,0),(true,1),(true,2),(true,3),(true,4),(true,5),(false,6),(false,7),(false,8)] (by kernel_rfl) (by kernel_rfl) (fun _ _ d _ _ hd h=>qKx (put_89 hd) h) ?_
   simp only [kQl,kQm,kQd,kQg,kQe,kQo]
   have S:=Lh (show OpW w k n w4.drew from S.out.1.keep (Below.refl _ _).drew)
   have C:=Lh (And.intro S.out.bk S.out.bn)
   refine qQc (by rfl) C.out (fun W hW=>qQj 38 (.tmp 4) rfl w.heap.size rfl 38 (W8 k) (0,0) _ hW.1 Tryz.underlying38 rfl ZK.out) ?_
   simp only [Act.put,pq1,pq2,pq3]
   refine qQc (by rfl) C.out (fun W hW=>qQj 128 (.tmp 5) rfl (w.heap.size+1) rfl 128 (W8 n) (0,0) _ hW.2 Tryz.underlying128 rfl ZN.out) ?_
   simp only [Act.put,pq1,pq2,pq3]
   refine qQc (by rfl) C.out (fun W hW=>by go_simp;rfl) ?_
   simp only [Act.put,pq1,pq2,pq3]
   refine qQc (by rfl) C.out (fun W hW=>by go_simp;rfl) ?_
   simp only [Act.put,pq1,pq2,pq3]
   refine qQc (by rfl) C.out (fun W hW=>by go_simp;rfl) ?_
   simp only [Act.put,pq1,pq2,pq3]
   refine qQc (by rfl) C.out (fun W hW=>qKN 22 5 (.tmp 35) (.tmp 36) (.tmp 37) rfl Tryz.underlying22 I0.out I1.out A2 q2 c2 at_ AC.out rfl rfl rfl W) ?_
   simp only [Act.put,pq1,pq2,pq3]
   refine qQE (by rfl) (fun K hK=>?_)
   go_simp
   have SA:=Lh (stream_go k n HK.out HN.out 1 w4.drew A2 at_ X (RX.out.keep S.out.bel) (by rw [XL.out];exact kQh _) (by have:=AB.out;have:=XL.out;omega))
   rw[XL.out]at SA
   refine SA.out.mono ?_
   obtain⟨Z,hZ⟩:∃Z,Z=qQY k n 1 X:=⟨_,rfl⟩
   rw[←hZ]
   rw[←hZ]at RE
   rintro e w5 ⟨v,rfl,ho,hb⟩
   obtain⟨Av,cv,rfl,_⟩:=ho.read
   obtain⟨zn,hzn⟩:∃z,z=Z.length:=⟨_,rfl⟩
   rw[←hzn]at ho ⊢
   have O:=Lh (ho.mono S.out.bel.size)
   have OL:=Lh (fun g e=>kQb S.out.lt (ho.lt g e).1)
   have S:=Lh (S.out.keep hb)
   have C:=Lh (And.intro S.out.bk S.out.bn)
   clear hb ho hZ hzn SA
   refine hK.out _ _ C.out ?_
   clear hK K
   have ct:w5.cell? ⟨w.heap.size+1+1,0,none⟩=some (.slice none 0 0):=qQg S.out.bt 0 rfl
   have ft:=qQz S.out.bt 0
   refine qQE (by rfl) (fun K hK=>?_)
   go_simp
   obtain⟨w6,hw6⟩:∃w6,w6=w5.setCell ⟨w.heap.size+1+1,0,none⟩ (.slice Av zn cv):=⟨_,rfl⟩
   rw[←hw6]
   have G6:=Lh (show w5.grownBy w6 (some (w.heap.size+1+1)) by rw [hw6];exact qQF (World.grownBy.refl _ _) _ _)
   have T6:=Lh (show w6.heap[w.heap.size+1+1]?=some (.cells #[.slice Av zn cv] 22 (0,0)) by rw [hw6,heap_setCell_same _ _ _ _ _ _ S.out.bt];rfl)
   have O6:=Lh (qQd G6.out (by simp) S.out.bo)
   have C:=Lh (And.intro (qQd G6.out (by simp<;>omega) S.out.bk) (qQd G6.out (by simp<;>omega) S.out.bn))
   clear hw6 ct ft
   refine hK.out _ _ C.out ?_
   clear hK K
   have co:w6.cell? ⟨w.heap.size+1+1+1,0,none⟩=some (.bool false):=qQg O6.out 0 rfl
   have fo:=qQz O6.out 0
   refine qQE (by rfl) (fun K hK=>?_)
   go_simp
   obtain⟨w7,hw7⟩:∃w7,w7=w6.setCell ⟨w.heap.size+1+1+1,0,none⟩ (.bool true):=⟨_,rfl⟩
   rw[←hw7]
   have G7:=Lh (show w6.grownBy w7 (some (w.heap.size+1+1+1)) by rw [hw7];exact qQF (World.grownBy.refl _ _) _ _)
   have T7:=Lh (qQd G7.out (by simp) T6.out)
   have O7:=Lh (show w7.heap[w.heap.size+1+1+1]?=some (.cells #[.bool true] 4 (0,0)) by rw [hw7,heap_setCell_same _ _ _ _ _ _ O6.out];rfl)
   have C:=Lh (And.intro (qQd G7.out (by simp<;>omega) C.out.1) (qQd G7.out (by simp<;>omega) C.out.2))
   clear hw7 co fo
   refine hK.out _ _ C.out ?_
   clear hK K
   refine qQG ?_
   go_wp2_with fail
   rw[RE.out]
   refine open_stands (qQg T7.out 0 rfl) (qQg O7.out 0 rfl) ?_ ?_ _ rfl rfl
   ·refine(O.out.grown G6.out ?_).grown G7.out ?_
    ·rcases hq:(Value.slice Av zn cv).ownBlock with _|g
     ·exact .inl rfl
     ·exact .inr (fun e=>by injection e with e;have:=OL.out g hq;omega)
    ·rcases hq:(Value.slice Av zn cv).ownBlock with _|g
     ·exact .inl rfl
     ·exact .inr (fun e=>by injection e with e;have:=OL.out g hq;omega)
   ·exact S.out.bel.trans ((qQi G6.out S.out.bel.size (by rintro k ⟨⟩;omega)).trans (qQi G7.out (kQk S.out.bel.size G6.out.size) (by rintro k ⟨⟩;omega)))
  ·have hE:=Lh (show decide (T=Y)=false from decide_eq_false hTY)
   have RE:=Lh (show r=none by rw [RE.out,if_neg hTY])
   clear hTY
   refine qX7 D89 (by kernel_rfl) (fun W=>OpW w k n W∧W.heap[M]?=some (.cells (W8 T) 155 (0,0))) [(true,0),(true,1),(true,2),(true,3),(false,4),(false,5)] (by kernel_rfl) (by kernel_rfl) (fun _ _ d _ _ hd h=>qKx (put_89 hd) h) ?_
   simp only [kQl,kQm,kQd,kQg,kQe,kQo]
   have S:=Lh (show OpW w k n wc.drew∧wc.drew.heap[M]?=some (.cells (W8 T) 155 (0,0))from⟨S.out.keep (Below.refl _ _).drew,R.out⟩)
   refine qQc (by rfl) S.out (fun W hW=>qXs 155 (.tmp 11) rfl 16 5 Tryz.underlying155 I0.out M rfl W) ?_
   simp only [Act.put,pq1,pq2,pq3]
   refine qQc (by rfl) S.out (fun W hW=>by go_simp;rfl) ?_
   simp only [Act.put,pq1,pq2,pq3]
   refine qQc (by rfl) S.out (fun W hW=>by go_simp;rfl) ?_
   simp only [Act.put,pq1,pq2,pq3]
   refine qQc (by rfl) S.out (fun W hW=>qVo 22 (.tmp 28) (.tmp 29) rfl Tryz.underlying22 HX.out rfl rfl W) ?_
   simp only [Act.put,pq1,pq2,pq3]
   refine qQE (by rfl) (fun K hK=>?_)
   go_simp
   refine(equal_any _ (some ⟨M,0,none⟩) 16 16 T TL.out (RdB.row S.out.2) A' 16 (c2-at_) Y YL.out (RY.out.keep S.out.1.bel) (by omega) (by omega)).mono ?_
   rw[hE.out]
   rintro e w4 ⟨rfl,hb⟩
   have S:=Lh (show OpW w k n w4∧w4.heap[M]?=some (.cells (W8 T) 155 (0,0))from⟨S.out.1.keep hb,qQb hb (qQe S.out.2) S.out.2⟩)
   clear hb
   refine hK.out _ _ S.out ?_
   clear hK K
   refine qQE (by rfl) (fun K hK=>?_)
   go_simp
   refine(qYH _).mono ?_
   rintro e w5 ⟨ht,hw⟩
   rw[hw]
   obtain⟨u,pv,rfl⟩:=ht
   rw[RE.out]
   exact qYE S.out.1 u pv _ rfl rfl
end Go.Proofs.YtlocplkjokoknaaGreat
namespace Go.Proofs.YtlocplkjokoknaaGreat
open Go.RowKit
theorem eqItems8 {P:Program} (w:World) (e:TypeId) (he:P.underlying e=some (.int .u8)) (dd:Nat) (xs ys:List UInt8):∀(is:List Nat),(∀i∈is,i<xs.length∧i<ys.length)→
  (Op.eqItems (dd+1) e 1 (W8 xs) (W8 ys) is).run P w=.ok (is.all fun i=>xs.getD i 0==ys.getD i 0) w
 | [],_=>by simp [Op.eqItems]
 | i::is,h=>by
  have hk:P.plainKey e=true:=by simp [Program.plainKey,he]
  obtain⟨h1,h2⟩:=h i (by simp)
  have ih:=eqItems8 w e he dd xs ys is (fun j hj=>h j (by simp [hj]))
  have p1:=run_part_plain (P:=P) (w:=w) hk (xs:=W8 xs) (off:=i*1) (v:=.int .u8 ((xs.getD i 0).toNat:Int)) (by rw [Nat.mul_one];exact qZ4 xs i h1)
  have p2:=run_part_plain (P:=P) (w:=w) hk (xs:=W8 ys) (off:=i*1) (v:=.int .u8 ((ys.getD i 0).toNat:Int)) (by rw [Nat.mul_one];exact qZ4 ys i h2)
  simp only [Op.eqItems,Sem.run_bind,p1,p2,Result.andThen_ok,run_equalIn_int w dd e .u8 .u8 _ _ he,List.all_cons]
  have e1:(((xs.getD i 0).toNat:Int)==((ys.getD i 0).toNat:Int))=(xs.getD i 0==ys.getD i 0):=by
   by_cases hq:xs.getD i 0=ys.getD i 0
   ·rw [hq];simp
   ·have:(xs.getD i 0).toNat≠(ys.getD i 0).toNat:=fun h=>hq (UInt8.toNat_inj.1 h)
    rw[beq_eq_false_iff_ne.2 hq,beq_eq_false_iff_ne.2 (by omega)]
  rw[e1]
  cases hb:(xs.getD i 0==ys.getD i 0)
  ·simp
  ·simp [ih]
theorem eq_arr {P:Program} (w:World) (t e:TypeId) (n:Nat) (ht:P.underlying t=some (.array n e)) (he:P.underlying e=some (.int .u8)) (hc:(P.info? e).map (·.size)=some 1) (xs ys:List UInt8) (hx:xs.length=n) (hy:ys.length=n) :
  (Op.equalIn 10000 t (.agg (W8 xs)) (.agg (W8 ys))).run P w=.ok (decide (xs=ys)) w:=by
 cases hi:P.info? e with
 | none=>simp [hi]at hc
 | some i=>
  have hcs:P.cellsOf e=1:=by
   simp only [hi,kQo,Option.some.injEq]at hc
   simp [Program.cellsOf,hi,hc]
  have h:=run_equalIn_array w 9999 (W8 xs) (W8 ys) ht hi
  rw[show(10000:Nat)=9999+1 from rfl,h]
  rw[hcs,eqItems8 w e he 9998 xs ys (List.range n) (fun j hj=>by simp at hj;omega)]
  congr 1
  by_cases hq:xs=ys
  ·subst hq;simp
  ·rw [decide_eq_false hq]
   apply Bool.eq_false_iff.2
   intro hall
   apply hq
   rw[List.all_eq_true]at hall
   apply List.ext_getElem (by omega)
   intro j h1 h2
   have:=hall j (by simp;omega)
   simpa [kQa,h1,h2]using this
theorem run_eq_arr {P:Program} {o:Oper} {a:Act} (t t2:TypeId) (x y:Operand) (ho:o.op=.binOp .eql t x y t2) (e:TypeId) (n:Nat) (ht:P.underlying t=some (.array n e)) (he:P.underlying e=some (.int .u8)) (hc:(P.info? e).map (·.size)=some 1) (hm:P.eqGuardType P.depth t=false) (xs ys:List UInt8)
  (hxs:xs.length=n) (hys:ys.length=n) (hx:a.eval x=.agg (W8 xs)) (hy:a.eval y=.agg (W8 ys)) (W:World):(execOp a.eval o).run P W=.ok (.value (.bool (decide (xs=ys)))) W:=by
 unfold execOp
 simp only [ho,hx,hy,Sem.run_bind,Sem.run_pure,run_eql_struct,run_eqGuard_agg (w:=W) _ t x y _ _ hm,eq_arr W t e n ht he hc xs ys hxs hys,Result.andThen_ok]
end Go.Proofs.YtlocplkjokoknaaGreat
