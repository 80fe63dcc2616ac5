/- Part 5 of what the law LawRingMakes needs. No condition but those each theorem states. -/
import Derived.LaidEql
import Derived.RowKitTokens
import Derived.Stop.Asserts
import Derived.Test.YtlocplkjokoknaaGreatChecked
import Derived.WalkKit
import Derived.Test.YtlocplkjokoknaaGreatPkLawRingMakesD
set_option linter.unusedVariables false
set_option linter.unusedSimpArgs false
set_option maxHeartbeats 32000000
set_option maxRecDepth 100000
open List renaming getD_eq_getElem?_getD → kQa, replicate → kQc, getElem?_toArray → kQd, getElem?_cons_succ → kQe, toList_toArray → kQf, getElem?_cons_zero → kQg, getElem?_eq_getElem → kQi, length_append → kQj, filterMap_cons → kQl, filterMap_nil → kQm, take_of_length_le → kQn, length_take → kQp, getElem?_append_right → kQq, map_toArray → kQs, drop_of_length_le → kQt, mem_of_getElem? → kQu, length_drop → kQv, map_cons → kQw
open Nat renaming lt_of_lt_of_le → kQb, le_refl → kQh, le_trans → kQk, eq_of_beq_eq_true → kQr
open Option renaming map_some → kQo
namespace Go.Proofs.YtlocplkjokoknaaGreat
open Go.RowKit
attribute [local go_sem ↓] Go.wp_at_zero Go.wp_at_succ
def RingZ:Array Value:=#[.slice none 0 0,.slice none 0 0]
theorem qZi:(Tryz.prog.info? 35).map (·.size)=some 2:=by kernel_rfl
theorem qQ9:(Tryz.prog.info? 35).map (·.size)=some RingZ.size:=qZi
theorem qZ2:RingZ.all (·.oneCell')=true:=by simp [RingZ,Value.oneCell']
theorem qXH {g S b:Nat} {w w2 W:World} (hb:Below w.heap.size w w2) (h:BoxF g S b w2 W):BoxF g S b w W:=⟨kQk hb.size h.1,fun k h1 h2 h3 h4=>(h.2 k (kQb h1 hb.size) h2 h3 h4).trans (hb.block k h1)⟩
def WrapP (w0:World) (g S D b lo:Nat) (y:Kys) (l:List Mem) (s:BSt) (w:World) (e:Ending) (w':World):Prop:=
 ∃s' r,qYn y l s s' r∧BoxB w0 g S D b lo s' w'∧BoxF g S b w w'∧
  match r with
  | none=>e=.returned (.tuple #[.agg RingZ,.int .i64 15])
  | some (xs,d)=>∃v,e=.returned (.tuple #[v,.int .i64 0])∧RgB w.heap.size w' v xs d
theorem wrap_any (w0:World) (g S D b lo:Nat) (s:BSt) (w:World) (h:BoxB w0 g S D b lo s w) (hmo:s.mode=0∨s.mode=1) (y:Kys) (hy:OkK y) (A:Option Addr) (c:Nat) (zs:List Mem) (R:RdM w A zs) (h8:zs.length≤8) (hnn:∀z∈zs,0≤z.n∧z.n≤255)
  (hA:∀a,A=some a→a.block≠g∧a.block≠S∧a.block≠b) (hu:s.u+10000≤900000) (hF:s.F.length≤100000) (hm:s.m.length≤5000) (hn:s.n≤50000) (hlo:lo≤w.heap.size) (hD:D<lo) (hw0:w0.heap.size≤lo) :
  Calls Tryz.prog 27 #[.pointer (some ⟨g,0,none⟩),.agg (RowK y).toArray,.slice A zs.length c] w (WrapP w0 g S D b lo y zs s w):=by
 have TB:=Lh (show qXA Tryz.prog from⟨Tryz.underlying22,by kernel_rfl⟩)
 have TO:=Lh (show SlT Tryz.prog 33 22 (.slice none 0 0) 24 from⟨Tryz.underlying33,by kernel_rfl,rfl⟩)
 have Z32:=Lh qJn
 have H:=Lh h
 have HMO:=Lh hmo
 have HY:=Lh hy
 have HR:=Lh R
 have HNN:=Lh hnn
 have HA:=Lh hA
 have HU:=Lh hu
 have HF:=Lh hF
 have HM:=Lh hm
 have HN:=Lh hn
 have HLO:=Lh hlo
 have HD:=Lh hD
 have HW0:=Lh hw0
 have LOW:=Lh (show g<lo∧S<lo∧b<lo from⟨h.lg,h.lS,h.map.low⟩)
 obtain⟨q,hq⟩:∃q,q=zs.length:=⟨_,rfl⟩
 obtain⟨cs,hcs⟩:∃cs,cs=RowK y:=⟨_,rfl⟩
 rw[←hq,←hcs]
 have CE:=Lh hcs
 have CL:=Lh (show(Tryz.prog.info? 40).map (·.size)=some cs.length by rw [hcs,qXP hy];exact qKv)
 have Q1:=Lh hq.symm
 have Q8:=Lh (show q≤8 by omega)
 have b0:(q:Int)≤8:=by omega
 clear h hmo hy R h8 hnn hA hu hF hm hn hlo hD hw0 hq hcs
 go_enter Tryz.func27,Tryz.ntmps27
 go_upto_region 1 with fail
 generalize hM4:Array.size (World.heap w)=M4
 generalize hwa:World.alloc w _=wa
 have sa:wa.heap.size=M4+1:=by rw [←hwa,qQD,hM4]
 generalize hwb:World.alloc wa _=w2
 have B2:=Lh (show Below w.heap.size w w2 by rw [←hwb,←hwa];exact(qQh _ _).alloc (qQh _ _).size _)
 have s2:=Lh (show w2.heap.size=M4+2 by rw [←hwb,qQD,sa])
 have R4:=Lh (show w2.heap[M4]?=some (.cells cs.toArray 40 (0,0))from by
  have h1:wa.heap[M4]?=some (.cells cs.toArray 40 (0,0)):=by rw [←hwa];exact qQk _ _ _ hM4.symm
  rw[←hwb]
  exact qQb (qQh _ _) (qQe h1) h1)
 have R6:=Lh (show w2.heap[M4+1]?=some (.cells RingZ 35 (0,0)) by rw [←hwb];exact qQk _ _ _ sa.symm)
 have LM:=Lh (show lo≤M4 by rw [←hM4];exact HLO.out)
 have ME:=Lh hM4
 clear hwa hwb sa hM4
 go_upto_region 2 with fail
 rw[s2.out]
 generalize hwc:World.alloc w2 _=w3
 have B3:=Lh (show Below w2.heap.size w2 w3 by rw [←hwc];exact qQh _ _)
 have R8:=Lh (show w3.heap[M4+2]?=some (.cells #[.slice none 0 0,.slice none 0 0] 35 (0,0)) by rw [←hwc];exact qQk _ _ _ s2.out.symm)
 have P0:=Lh (show RnW w2 g S b lo (M4+2) [] (.slice none 0 0) [] w3 from⟨(BoxF.refl g S b w2).below B3.out,R8.out,OwnV.nil _ _ _,rfl,fun j x hx=>by simp at hx,by rw [s2.out];exact kQh _,LOW.out,by rw [s2.out];have:=LM.out;omega⟩)
 have BX0:=Lh ((H.out.keep B2.out).keep B3.out)
 clear hwc R8 B3
 go_wp2_with fail
 go_loopw [16] (fun i wr=>∃(j:Nat) (s1:BSt) (xs:List (List UInt8)) (v:Value) (vs:List Value),j≤8∧i=.int .i64 (j:Int)∧WrapsR y zs s j s1 xs∧BoxB w0 g S D b lo s1 wr∧RnW w2 g S b lo (M4+2) xs v vs wr) (fun i _=>8-(intOf i).toNat)
 case atStart=>exact⟨0,s,[],_,[],by omega,rfl,.zero,BX0.out,P0.out⟩
 case round=>
  obtain⟨j,s1,xs,v,vs,hj,rfl,hwr,hbx,hrn⟩:=hrel
  have J:=Lh hj
  have WR:=Lh hwr
  have BX:=Lh hbx
  have RN:=Lh hrn
  have BD:=Lh (hwr.bounds HY.out)
  clear hj hwr hbx hrn
  obtain⟨wp,rfl⟩:∃wp:World,wp=wr:=⟨_,rfl⟩
  by_cases hlt:j<8
  ·have hD:decide ((j:Int)<8)=true:=by simp;omega
   have J8:=Lh hlt
   have j7:(j:Int)≤7:=by omega
   clear hlt
   go_upto_region 5 with fail
   refine wp_region_list ?_
   simp only [kQf]
   refine qQs (by rfl) (fun K hK=>?_)
   go_simp
   generalize hB:Array.size (World.heap _)=N9
   generalize hw:World.alloc _ _=wn
   obtain⟨hr,hs,_⟩:=built_one (x:=255) hw hB (Below.refl _ _)
   have R9:=Lh hr
   have Z:=Lh hs
   clear hB hw hr hs
   refine hK.out _ _ ?_
   clear hK K
   refine qQs (by rfl) (fun K hK=>?_)
   go_simp
   refine(repeat_full wn _ R9.out).mono ?_
   rintro e w5 ⟨GT,rfl,hG1,hG2,hrt,hb⟩
   have BR:=Lh (Z.out.trans (hb.mono Z.out.size))
   have RT:=Lh hrt
   have GL:=Lh (show wp.heap.size≤GT∧GT<w5.heap.size from⟨kQk Z.out.size hG1,hG2⟩)
   clear hG1 hG2 hrt hb R9 Z
   refine hK.out _ _ ?_
   clear hK K
   go_upto_region 7 with fail
   rw[←Z32.out]
   generalize hM11:Array.size (World.heap w5)=M11
   generalize hw6:World.alloc w5 _=w6
   have B6:=Lh (show Below w5.heap.size w5 w6 by rw [←hw6];exact qQh _ _)
   have R11:=Lh (show w6.heap[M11]?=some (.cells (W8 (kQc 32 0)) 38 (0,0)) by rw [←hw6];exact qQk _ _ _ hM11.symm)
   have BP6:=Lh (show Below wp.heap.size wp w6 from BR.out.trans (B6.out.mono BR.out.size))
   have RT6:=Lh (RT.out.keep B6.out)
   have MG:=Lh (show wp.heap.size≤M11∧GT<M11 by rw [←hM11];exact⟨BR.out.size,GL.out.2⟩)
   clear hM11 hw6 RT BR B6
   by_cases hq:j<q
   ·have hDq:decide ((j:Int)<(q:Int))=true:=by simp;omega
    obtain⟨z,bz,oz,hz,hok,hAz,hrz⟩:=HR.out.at (show j<zs.length by rw [Q1.out];exact hq)
    have hr6:w6.rangeAt bz (oz+j*34) (RowM z):=qQ4 (qYx (qQ4 hrz B2.out) RN.out.fr (HA.out _ hAz)) BP6.out
    have KR:=Lh (qWM hr6)
    have FR:=Lh (hr6 33 _ (by have:=rowM_o hok.1;rwa [kQd]at this))
    have EE:=Lh (show qXd y zs j s1=(s1,⟨z.k,qZF,qXh y z.o⟩) by unfold qXd;rw [hz])
    have KL:=Lh (show(⟨z.k,qZF,qXh y z.o⟩:Ent).key.length=32 from hok.1)
    have AE:=Lh hAz
    have JQ:=Lh hq
    have HQ4:=Lh (show M4≠g∧M4≠S∧M4≠b by have:=LM.out;have:=LOW.out;omega)
    have R46:=Lh (qQb BP6.out (qQe (qZm R4.out RN.out.fr HQ4.out)) (qZm R4.out RN.out.fr HQ4.out))
    have BZL:=Lh (show bz<w.heap.size from World.block_lt_of_cell? w _ (hrz 0 _ rfl))
    have ZK:=Lh (show(Tryz.prog.info? 38).map (·.size)=some (B8 z.k).length from qWv hok.1)
    have ZW:=Lh (show(Tryz.prog.info? 38).map (·.size)=some (W8 z.k).size by rw [qQw,hok.1];kernel_rfl)
    have ZS:=Lh (show(W8 (kQc 32 0)).size=(W8 z.k).size by rw [qQw,qQw,hok.1];rfl)
    have BPD:=Lh (show Below wp.heap.size wp w6.drew from BP6.out.drew)
    have TX:=Lh (show ∀W:World,Calls Tryz.prog 52 #[.agg cs.toArray,.bool z.o] W fun e w'=>∃v,e=.returned v∧OwnB w' W.heap.size v (qXh y z.o)∧Below W.heap.size W w' by intro W;rw [CE.out];exact text_any W y HY.out z.o)
    have TLN:=Lh (qWo HY.out z.o)
    have ZE:=Lh (And.intro hz hok)
    clear hz hok hAz hrz hr6 hq
    go_upto_region 8 with fail
    have W0:=Lh (show w6.drew.heap[bz]?=w6.heap[bz]?∧w6.drew.heap[M4]?=w6.heap[M4]? from⟨rfl,rfl⟩)
    have R11:=Lh (show w6.drew.heap[M11]?=_ from R11.out)
    refine qQu (fun W=>W.heap[bz]?=w6.heap[bz]?∧W.heap[M4]?=w6.heap[M4]?) [(true,0),(true,1),(true,2),(true,3),(true,4),(true,5),(true,6),(true,7),(true,8),(true,9),(true,10),(false,11),(false,12),(true,13)] (by kernel_rfl) (by kernel_rfl) (fun _ _ d _ _ h=>by cases d<;>exact h) ?_
    simp only [kQl,kQm,kQd,kQg,kQe,kQo]
    generalize World.drew w6=wd at W0 R11 BPD ⊢
    refine qQc (by rfl) W0.out (fun W hW=>by go_simp;rfl) ?_
    simp only [Act.put,pq1,pq2,pq3]
    refine qQc (by rfl) W0.out (fun W hW=>by go_simp;rfl) ?_
    simp only [Act.put,pq1,pq2,pq3]
    refine qQc (by rfl) W0.out (fun W hW=>qQr 23 (.tmp 25) (.tmp 26) rfl 63 Tryz.underlying23 34 qZC bz oz q c j JQ.out .i64 _ rfl (by rw [←AE.out];rfl) rfl W) ?_
    simp only [Act.put,pq1,pq2,pq3]
    refine qQc (by rfl) W0.out (fun W hW=>by go_simp;rfl) ?_
    simp only [Act.put,pq1,pq2,pq3]
    refine qQc (by rfl) W0.out (fun W hW=>qQI 38 (.tmp 28) rfl bz (oz+j*34+1) rfl (B8 z.k) (fun i v hi=>qJM (KR.out i v hi) hW.1) Tryz.underlying38 rfl ZK.out) ?_
    simp only [Act.put,pq1,pq2,pq3]
    refine qQc (by rfl) W0.out (fun W hW=>qQI 40 (.tmp 4) rfl M4 0 rfl cs (qQ5 (hW.2.trans R46.out)) Tryz.underlying40 rfl CL.out) ?_
    simp only [Act.put,pq1,pq2,pq3]
    refine qQc (by rfl) W0.out (fun W hW=>by go_simp;rfl) ?_
    simp only [Act.put,pq1,pq2,pq3]
    refine qQc (by rfl) W0.out (fun W hW=>by go_simp;rfl) ?_
    simp only [Act.put,pq1,pq2,pq3]
    refine qQc (by rfl) W0.out (fun W hW=>qQr 23 (.tmp 31) (.tmp 32) rfl 63 Tryz.underlying23 34 qZC bz oz q c j JQ.out .i64 _ rfl (by rw [←AE.out];rfl) rfl W) ?_
    simp only [Act.put,pq1,pq2,pq3]
    refine qQc (by rfl) W0.out (fun W hW=>by go_simp;rfl) ?_
    simp only [Act.put,pq1,pq2,pq3]
    refine qQc (by rfl) W0.out (fun W hW=>qQq 4 (.tmp 34) rfl _ Tryz.underlying4 rfl rfl (qJM FR.out hW.1)) ?_
    simp only [Act.put,pq1,pq2,pq3]
    refine qQE (by rfl) (fun K hK=>?_)
    go_simp
    refine(TX.out wd).mono ?_
    rintro e w7 ⟨v7,rfl,ho,hb⟩
    obtain⟨At,ct,rfl,hr7,hct,_,ha7⟩:=ho.read
    have B7:=Lh (BPD.out.trans (hb.mono BPD.out.size))
    have T7:=Lh hr7
    have C7:=Lh (show 73≤ct by rw [←TLN.out];exact hct)
    have AtB:=Lh (show ∀a,At=some a→wp.heap.size≤a.block∧M11<a.block from fun a e=>by have:=(ha7 a e).1;have:=qQe R11.out;have:=BPD.out.size;omega)
    have R7:=Lh (qQb hb (qQe R11.out) R11.out)
    have W7:=Lh (show w7.heap[bz]?=w6.heap[bz]?∧w7.heap[M4]?=w6.heap[M4]? from⟨(hb.block bz (by have:=BZL.out;have:=BPD.out.size;have:=RN.out.fr.1;have:=B2.out.size;omega)).trans W0.out.1,(hb.block M4 (by have:=BPD.out.size;have:=RN.out.fr.1;have:=s2.out;omega)).trans W0.out.2⟩)
    rw[TLN.out]
    clear ho hb hr7 hct ha7
    refine hK.out _ _ W7.out ?_
    clear hK K
    refine qQE (by rfl) (fun K hK=>?_)
    refine qXl 38 (.tmp 11) (.tmp 29) rfl M11 (W8 z.k) rfl rfl _ _ R7.out ZW.out ZS.out (qZg _) ?_
    intro w8 hr hg hs
    have K8:=Lh hr
    have B8X:=Lh (show Below wp.heap.size wp w8 from qQo B7.out hg MG.out.1)
    have W8B:=Lh (show w8.heap[bz]?=w6.heap[bz]?∧w8.heap[M4]?=w6.heap[M4]? from⟨(hg.block bz (by have:=BZL.out;have:=B7.out.size;have:=RN.out.fr.1;have:=B2.out.size;omega) (fun e=>by have:=Option.some.inj e;have:=BZL.out;have:=MG.out.1;have:=RN.out.fr.1;have:=B2.out.size;omega)).trans W7.out.1,(hg.block M4 (by have:=B7.out.size;have:=RN.out.fr.1;have:=s2.out;omega) (fun e=>by have:=Option.some.inj e;have:=MG.out.1;have:=RN.out.fr.1;have:=s2.out;omega)).trans W7.out.2⟩)
    have T8:=Lh (show RdB w8 At (qXh y z.o)from T7.out.grown hg (fun q' e a ea=>by have:=(AtB.out a ea).2;have:=Option.some.inj e;omega))
    have BX8:=Lh (BX.out.keep B8X.out)
    have RN8:=Lh (RN.out.keep B8X.out)
    have A8S:=Lh (show wp.heap.size≤w8.heap.size from B8X.out.size)
    have A8B:=Lh (show ∀a,At=some a→wp.heap.size≤a.block from fun a e=>(AtB.out a e).1)
    clear hr hg hs
    refine hK.out _ _ W8B.out ?_
    clear hK K
    refine qQc (by rfl) W8B.out (fun W hW=>by go_simp;rfl) ?_
    simp only [Act.put,pq1,pq2,pq3]
    refine qQG ?_
    have TL:=Lh (show(qXh y z.o).length=73 from TLN.out)
    obtain⟨sX,E,EQ,BXX,KK,TT,KLL,EBS,ETL⟩:∃(sX:BSt) (E:Ent),Hid (qXd y zs j s1=(sX,E))∧Hid (BoxB w0 g S D b lo sX w8)∧Hid (w8.heap[M11]?=some (.cells (W8 E.key) 38 (0,0)))∧Hid (RdB w8 At E.text)∧Hid (E.key.length=32)∧Hid (E.beside=qZF)∧Hid (E.text.length=73):=
     ⟨_,_,EE,BX8,K8,T8,KL,Lh rfl,TL⟩
    clear EE BX8 K8 T8 KL TLN TL
    as_aux_lemma=>
     go_upto_region 10 with fail
     have ES:=Lh (show sX.mode=s1.mode∧sX.F=s1.F∧sX.u≤s1.u+32∧sX.n=s1.n∧sX.m=s1.m by have h1:=@qZM y zs j s1;rw [EQ.out]at h1;exact h1)
     have ZE8:=Lh (show(Tryz.prog.info? 38).map (·.size)=some (W8 E.key).size by rw [qQw,KLL.out];kernel_rfl)
     refine wp_region_list ?_
     simp only [kQf]
     refine qQa (by rfl) (by go_simp;rfl) ?_
     simp only [Act.put,pq1,pq2,pq3]
     refine qQa (by rfl) (qQj 38 (.tmp 11) rfl M11 rfl 38 (W8 E.key) (0,0) _ KK.out Tryz.underlying38 rfl ZE8.out) ?_
     simp only [Act.put,pq1,pq2,pq3]
     refine qQs (by rfl) (fun K hK=>?_)
     refine wp_wrap rfl ?_
     generalize hB:Array.size (World.heap w8)=N4
     generalize hw:World.alloc w8 _=w9
     have B9:=Lh (show Below w8.heap.size w8 w9 by rw [←hw];exact qQh _ _)
     have R9:=Lh (show w9.heap[N4]?=some (.cells (W8 qZF) 5 (0,0)) by rw [←hw];exact qQk _ _ _ hB.symm)
     have N4E:=Lh hB
     clear hB hw
     refine hK.out _ _ ?_
     clear hK K
     simp only [Act.put,pq1,pq2,pq3]
     refine qQs (by rfl) (fun K hK=>?_)
     refine wp_cv (.tmp 42) rfl R9.out rfl ?_
     intro w10 hr10 hg10 _
     have B10:=Lh (show Below w8.heap.size w8 w10 from qQo B9.out hg10 (by rw [N4E.out];exact kQh _))
     have R10:=Lh (show RdB w10 (some ⟨N4,0,none⟩) E.beside by rw [EBS.out];exact RdB.row hr10)
     clear hr10 hg10 R9 B9
     refine hK.out _ _ ?_
     clear hK K
     simp only [Act.put,pq1,pq2,pq3]
     refine qQa (by rfl) (by go_simp;rfl) ?_
     simp only [Act.put,pq1,pq2,pq3]
     refine qQs (by rfl) (fun K hK=>?_)
     go_simp
     refine(qVB w0 g S D b lo sX w10 (BXX.out.keep B10.out) (by rw [ES.out.1,BD.out.1];exact HMO.out) E KLL.out (some ⟨N4,0,none⟩) 4 4 (by rw [EBS.out];rfl) R10.out (by omega) At 73 _ ETL.out C7.out (TT.out.keep B10.out)
      (fun _ a e=>by have:=A8B.out a e;have:=LOW.out;have:=RN.out.fr.1;have:=s2.out;have:=LM.out;omega) (by omega) (by have:=ES.out.2.2.1;have:=BD.out.2.2.1;have:=HU.out;have:=J8.out;omega) (by rw [ES.out.2.1,BD.out.2.1];exact HF.out) (by rw [ES.out.2.2.2.2];have:=BD.out.2.2.2.2;have:=HM.out;have:=J8.out;omega) (by rw [ES.out.2.2.2.1];have:=BD.out.2.2.2.1;have:=HN.out;have:=J8.out;omega)
      (by have:=B10.out.size;have:=RN8.out.fr.1;have:=s2.out;have:=LM.out;omega)).mono ?_
     rintro e w11 ⟨Ax,m,cx,sZ,r,rfl,hse,hrx,hmx,hmc,hax,hbx,hbf⟩
     have RN11:=Lh ((RN8.out.keep B10.out).boxF hbf)
     have BX11:=Lh hbx
     have SE:=Lh hse
     have L11:=Lh (show wp.heap.size≤w11.heap.size∧w10.heap.size≤w11.heap.size from⟨by have:=RN8.out.fr.1;have:=B10.out.size;have:=hbf.1;have:=A8S.out;omega,hbf.1⟩)
     have HQ6:=Lh (show M4+1≠g∧M4+1≠S∧M4+1≠b by have:=LM.out;have:=LOW.out;omega)
     have R6X:=Lh (qZm R6.out RN11.out.fr HQ6.out)
     clear hse hbx hbf
     refine hK.out _ _ ?_
     clear hK K
     rcases r with _|x
     ·simp only [Option.isSome_none,Bool.false_eq_true,if_false]
      clear hrx hmx hmc hax
      go_wp2_with (refine qQf rfl rfl 35 (.tmp 6) (.tmp 50) rfl (M4+1) RingZ rfl rfl 35 _ R6X.out qQ9 rfl qZ2 ?_;intro w12 hz12 hg12 _)
      refine qZP (M4+1) 35 RingZ _ rfl rfl rfl rfl hz12 Tryz.underlying35 rfl qQ9 ⟨sZ,none,.inl ⟨j,s1,xs,J8.out,WR.out,by rw [EQ.out];exact SE.out,rfl⟩,BX11.out.grownT hg12 HD.out HW0.out ?_,?_,rfl⟩
      ·rintro q' ⟨⟩
       exact⟨by have:=LM.out;omega,_,_,_,R6X.out,by decide⟩
      ·exact(qXH B2.out RN11.out.fr).grown hg12 (fun k e=>by cases e;exact .inr (.inr (.inr (by rw [ME.out];omega))))
     ·simp only [Option.isSome_some,if_true]
      have hrx:RdB w11 Ax x:=hrx
      have hmx:x.length=m:=hmx
      have RX:=Lh hrx
      have MX:=Lh hmx
      have MC:=Lh hmc
      have AX:=Lh hax
      clear hrx hmx hmc hax
      go_upto_region 13 with fail
      refine wp_region_list ?_
      simp only [kQf]
      refine qQa (by rfl) (by go_simp;rfl) ?_
      simp only [Act.put,pq1,pq2,pq3]
      refine qQa (by rfl) (qQq 33 (.tmp 52) rfl _ Tryz.underlying33 rfl rfl (qQg RN11.out.row 0 rfl)) ?_
      simp only [Act.put,pq1,pq2,pq3]
      refine qQa (by rfl) (by go_simp;rfl) ?_
      simp only [Act.put,pq1,pq2,pq3]
      refine qQs (by rfl) (fun K hK=>?_)
      refine qVY (.tmp 54) rfl Ax m cx rfl ?_
      generalize hB:Array.size (World.heap w11)=N5
      generalize hw:World.alloc w11 _=w12
      have B12:=Lh (show Below w11.heap.size w11 w12 by rw [←hw];exact qQh _ _)
      have R12:=Lh (show RdV w12 (some ⟨N5,0,none⟩) [.slice Ax m cx]from RdV.row (t:=22) (fr:=(0,0)) (by rw [←hw];exact qQk _ _ _ hB.symm))
      clear hB hw
      refine hK.out _ _ ?_
      clear hK K
      simp only [Act.put,pq1,pq2,pq3]
      have OV:=Lh (RN11.out.own.below B12.out)
      have VL:=Lh (show vs.length≤8 by rw [RN11.out.vl,WR.out.len];have:=J8.out;omega)
      refine qZp rfl TO.out (.tmp 53) (.tmp 55) rfl (M4+2+1) v vs [.slice Ax m cx] (some ⟨N5,0,none⟩) 1 1 rfl rfl rfl OV.out R12.out (by intro u hu;simp only [List.mem_cons,List.mem_nil_iff,or_false]at hu;rw [hu];rfl) ?d3 (by have:=VL.out;omega) (by have:=VL.out;omega) ?_
      case d3=>have:=B12.out.size;have:=qQe RN11.out.row;omega
      intro v3 w13 ho hg hat
      have RM:=Lh (show w13.heap[M4+2]?=some (.cells #[v,.slice none 0 0] 35 (0,0))from qQd hg (fun e=>by have:=(RN11.out.own.lt _ e.symm).1;omega) (qQb B12.out (qQe RN11.out.row) RN11.out.row))
      have O3:=Lh ho
      have G3:=Lh hg
      have AT3:=Lh hat
      obtain⟨A3,c3,rfl,_,_,_,_⟩:=ho.read
      have TY:=Lh (OwnV.typed OV.out)
      clear ho hg hat
      simp only [Act.put,pq1,pq2,pq3]
      refine qQa (by rfl) (by go_simp;rfl) ?_
      simp only [Act.put,pq1,pq2,pq3]
      refine qQs (by rfl) (fun K hK=>?_)
      refine qVg (.tmp 57) (.tmp 56) rfl (M4+2) 0 _ _ _ rfl rfl RM.out (by simp) ?_
      intro w14 hr14 hg14 _
      have RN14:=Lh (RN11.out.next RX.out MX.out MC.out (fun a e=>⟨by have:=(AX.out a e).1;have:=B10.out.size;have:=A8S.out;have:=qQe RN.out.row;omega,(AX.out a e).2,fun e2=>by have:=(RN.out.own.lt _ e2.symm).2;have:=(AX.out a e).1;have:=B10.out.size;have:=A8S.out;omega⟩) B12.out O3.out G3.out AT3.out hr14 hg14)
      have BX13:=Lh ((BX11.out.keep B12.out).grownT G3.out HD.out HW0.out (fun q' e=>by
       obtain⟨h1,cur,fr,h2⟩:=TY.out q' e
       exact⟨by have:=LM.out;omega,cur,_,fr,h2,by decide⟩))
      have BX14:=Lh (BX13.out.grownT hg14 HD.out HW0.out (fun q' e=>by cases e;exact⟨by have:=LM.out;omega,_,_,_,RM.out,by decide⟩))
      have WR14:=Lh (show WrapsR y zs s (j+1) sZ (xs++[x])from .succ WR.out (by rw [EQ.out];exact SE.out))
      clear hr14 hg14
      refine hK.out _ _ ?_
      clear hK K
      simp only [Act.put,pq1,pq2,pq3]
      go_wp2_with fail
      go_roundw
      case rel=>exact⟨j+1,sZ,xs++[x],_,_,by have:=J8.out;omega,by go_num,WR14.out,BX14.out,RN14.out⟩
      case measure=>have:=J8.out;simp [intOf];omega
   ·have hDq:decide ((j:Int)<(q:Int))=false:=by simp;omega
    have EE:=Lh (show qXd y zs j s1=({ s1 with u:=s1.u+32 },⟨qQR s1.F s1.u 32,qZF,fullL⟩) by
     unfold qXd
     rw[List.getElem?_eq_none (by rw [Q1.out];omega)])
    have KL:=Lh (show(⟨qQR s1.F s1.u 32,qZF,fullL⟩:Ent).key.length=32 from qQy _ _ _)
    go_upto_region 9 with fail
    refine wp_region_list ?_
    simp only [kQf]
    refine qQa (by rfl) (by go_simp;rfl) ?_
    simp only [Act.put,pq1,pq2,pq3]
    refine qQs (by rfl) (fun K hK=>?_)
    go_simp
    refine(bkey_any w0 g S D b lo s1 w6 (BX.out.keep BP6.out) (by have:=BD.out.2.2.1;have:=HU.out;have:=J8.out;omega) (by rw [BD.out.2.1];exact HF.out)).mono ?_
    obtain⟨X,hX⟩:∃X,X=qQR s1.F s1.u 32:=⟨_,rfl⟩
    have XL:=Lh (show X.length=32 by rw [hX,qQy])
    rw[←hX]at EE KL ⊢
    clear hX
    rintro e w7 ⟨rfl,hb7,hg7⟩
    have SL:=Lh (show S<wp.heap.size∧D<wp.heap.size from⟨BX.out.src.lt,BX.out.ltD⟩)
    have R7:=Lh (qQd hg7 (fun e=>by have:=Option.some.inj e;have:=MG.out.1;have:=SL.out.1;omega) R11.out)
    have ZW:=Lh (show(Tryz.prog.info? 38).map (·.size)=some (W8 X).size by rw [qQw,XL.out];kernel_rfl)
    have ZS:=Lh (show(W8 (kQc 32 0)).size=(W8 X).size by rw [qQw,qQw,XL.out];rfl)
    have SR7:=Lh hb7.src
    have T7:=Lh (RT6.out.grown hg7 (fun q' e a ea=>by cases ea;cases e;show GT≠S;have:=GL.out.1;have:=SL.out.1;omega))
    have G7:=Lh (World.grownBy.trans (qQJ BP6.out).mono_none hg7)
    clear hb7 hg7
    refine hK.out _ _ ?_
    clear hK K
    refine qQs (by rfl) (fun K hK=>?_)
    refine qXl 38 (.tmp 11) (.tmp 38) rfl M11 (W8 X) rfl rfl _ _ R7.out ZW.out ZS.out (qZg _) ?_
    intro w8 hr hg hs
    have K8:=Lh hr
    have G8:=Lh (show wp.grownBy w8 (some S)from qWR G7.out hg (by rintro k ⟨⟩;exact MG.out.1))
    have BX8:=Lh (BX.out.step (SR7.out.far hg (by rintro k ⟨⟩;have:=MG.out.1;have:=SL.out;omega)) G8.out)
    have RN8:=Lh (RN.out.boxF (qVa G8.out))
    have T8:=Lh (show RdB w8 (some ⟨GT,0,none⟩) fullL from T7.out.grown hg (fun q' e a ea=>by cases ea;cases e;show GT≠M11;have:=MG.out.2;omega))
    have A8S:=Lh (show wp.heap.size≤w8.heap.size from G8.out.size)
    have A8B:=Lh (show ∀a,(some (⟨GT,0,none⟩:Addr))=some a→wp.heap.size≤a.block from fun a e=>by cases e;exact GL.out.1)
    have C7:=Lh (kQh 73)
    clear hr hg hs
    refine hK.out _ _ ?_
    clear hK K
    simp only [Act.put,pq1,pq2,pq3]
    have TL:=Lh (show fullL.length=73 from rfl)
    obtain⟨At,hAt⟩:∃At:Option Addr,At=some ⟨GT,0,none⟩:=⟨_,rfl⟩
    rw[←hAt]at T8 A8B ⊢
    clear hAt
    obtain⟨sX,E,EQ,BXX,KK,TT,KLL,EBS,ETL⟩:∃(sX:BSt) (E:Ent),Hid (qXd y zs j s1=(sX,E))∧Hid (BoxB w0 g S D b lo sX w8)∧Hid (w8.heap[M11]?=some (.cells (W8 E.key) 38 (0,0)))∧Hid (RdB w8 At E.text)∧Hid (E.key.length=32)∧Hid (E.beside=qZF)∧Hid (E.text.length=73):=
     ⟨_,_,EE,BX8,K8,T8,KL,Lh rfl,TL⟩
    clear EE BX8 K8 T8 KL TL
    as_aux_lemma=>
     go_upto_region 10 with fail
     have ES:=Lh (show sX.mode=s1.mode∧sX.F=s1.F∧sX.u≤s1.u+32∧sX.n=s1.n∧sX.m=s1.m by have h1:=@qZM y zs j s1;rw [EQ.out]at h1;exact h1)
     have ZE8:=Lh (show(Tryz.prog.info? 38).map (·.size)=some (W8 E.key).size by rw [qQw,KLL.out];kernel_rfl)
     refine wp_region_list ?_
     simp only [kQf]
     refine qQa (by rfl) (by go_simp;rfl) ?_
     simp only [Act.put,pq1,pq2,pq3]
     refine qQa (by rfl) (qQj 38 (.tmp 11) rfl M11 rfl 38 (W8 E.key) (0,0) _ KK.out Tryz.underlying38 rfl ZE8.out) ?_
     simp only [Act.put,pq1,pq2,pq3]
     refine qQs (by rfl) (fun K hK=>?_)
     refine wp_wrap rfl ?_
     generalize hB:Array.size (World.heap w8)=N4
     generalize hw:World.alloc w8 _=w9
     have B9:=Lh (show Below w8.heap.size w8 w9 by rw [←hw];exact qQh _ _)
     have R9:=Lh (show w9.heap[N4]?=some (.cells (W8 qZF) 5 (0,0)) by rw [←hw];exact qQk _ _ _ hB.symm)
     have N4E:=Lh hB
     clear hB hw
     refine hK.out _ _ ?_
     clear hK K
     simp only [Act.put,pq1,pq2,pq3]
     refine qQs (by rfl) (fun K hK=>?_)
     refine wp_cv (.tmp 42) rfl R9.out rfl ?_
     intro w10 hr10 hg10 _
     have B10:=Lh (show Below w8.heap.size w8 w10 from qQo B9.out hg10 (by rw [N4E.out];exact kQh _))
     have R10:=Lh (show RdB w10 (some ⟨N4,0,none⟩) E.beside by rw [EBS.out];exact RdB.row hr10)
     clear hr10 hg10 R9 B9
     refine hK.out _ _ ?_
     clear hK K
     simp only [Act.put,pq1,pq2,pq3]
     refine qQa (by rfl) (by go_simp;rfl) ?_
     simp only [Act.put,pq1,pq2,pq3]
     refine qQs (by rfl) (fun K hK=>?_)
     go_simp
     refine(qVB w0 g S D b lo sX w10 (BXX.out.keep B10.out) (by rw [ES.out.1,BD.out.1];exact HMO.out) E KLL.out (some ⟨N4,0,none⟩) 4 4 (by rw [EBS.out];rfl) R10.out (by omega) At 73 _ ETL.out C7.out (TT.out.keep B10.out)
      (fun _ a e=>by have:=A8B.out a e;have:=LOW.out;have:=RN.out.fr.1;have:=s2.out;have:=LM.out;omega) (by omega) (by have:=ES.out.2.2.1;have:=BD.out.2.2.1;have:=HU.out;have:=J8.out;omega) (by rw [ES.out.2.1,BD.out.2.1];exact HF.out) (by rw [ES.out.2.2.2.2];have:=BD.out.2.2.2.2;have:=HM.out;have:=J8.out;omega) (by rw [ES.out.2.2.2.1];have:=BD.out.2.2.2.1;have:=HN.out;have:=J8.out;omega)
      (by have:=B10.out.size;have:=RN8.out.fr.1;have:=s2.out;have:=LM.out;omega)).mono ?_
     rintro e w11 ⟨Ax,m,cx,sZ,r,rfl,hse,hrx,hmx,hmc,hax,hbx,hbf⟩
     have RN11:=Lh ((RN8.out.keep B10.out).boxF hbf)
     have BX11:=Lh hbx
     have SE:=Lh hse
     have L11:=Lh (show wp.heap.size≤w11.heap.size∧w10.heap.size≤w11.heap.size from⟨by have:=RN8.out.fr.1;have:=B10.out.size;have:=hbf.1;have:=A8S.out;omega,hbf.1⟩)
     have HQ6:=Lh (show M4+1≠g∧M4+1≠S∧M4+1≠b by have:=LM.out;have:=LOW.out;omega)
     have R6X:=Lh (qZm R6.out RN11.out.fr HQ6.out)
     clear hse hbx hbf
     refine hK.out _ _ ?_
     clear hK K
     rcases r with _|x
     ·simp only [Option.isSome_none,Bool.false_eq_true,if_false]
      clear hrx hmx hmc hax
      go_wp2_with (refine qQf rfl rfl 35 (.tmp 6) (.tmp 50) rfl (M4+1) RingZ rfl rfl 35 _ R6X.out qQ9 rfl qZ2 ?_;intro w12 hz12 hg12 _)
      refine qZP (M4+1) 35 RingZ _ rfl rfl rfl rfl hz12 Tryz.underlying35 rfl qQ9 ⟨sZ,none,.inl ⟨j,s1,xs,J8.out,WR.out,by rw [EQ.out];exact SE.out,rfl⟩,BX11.out.grownT hg12 HD.out HW0.out ?_,?_,rfl⟩
      ·rintro q' ⟨⟩
       exact⟨by have:=LM.out;omega,_,_,_,R6X.out,by decide⟩
      ·exact(qXH B2.out RN11.out.fr).grown hg12 (fun k e=>by cases e;exact .inr (.inr (.inr (by rw [ME.out];omega))))
     ·simp only [Option.isSome_some,if_true]
      have hrx:RdB w11 Ax x:=hrx
      have hmx:x.length=m:=hmx
      have RX:=Lh hrx
      have MX:=Lh hmx
      have MC:=Lh hmc
      have AX:=Lh hax
      clear hrx hmx hmc hax
      go_upto_region 13 with fail
      refine wp_region_list ?_
      simp only [kQf]
      refine qQa (by rfl) (by go_simp;rfl) ?_
      simp only [Act.put,pq1,pq2,pq3]
      refine qQa (by rfl) (qQq 33 (.tmp 52) rfl _ Tryz.underlying33 rfl rfl (qQg RN11.out.row 0 rfl)) ?_
      simp only [Act.put,pq1,pq2,pq3]
      refine qQa (by rfl) (by go_simp;rfl) ?_
      simp only [Act.put,pq1,pq2,pq3]
      refine qQs (by rfl) (fun K hK=>?_)
      refine qVY (.tmp 54) rfl Ax m cx rfl ?_
      generalize hB:Array.size (World.heap w11)=N5
      generalize hw:World.alloc w11 _=w12
      have B12:=Lh (show Below w11.heap.size w11 w12 by rw [←hw];exact qQh _ _)
      have R12:=Lh (show RdV w12 (some ⟨N5,0,none⟩) [.slice Ax m cx]from RdV.row (t:=22) (fr:=(0,0)) (by rw [←hw];exact qQk _ _ _ hB.symm))
      clear hB hw
      refine hK.out _ _ ?_
      clear hK K
      simp only [Act.put,pq1,pq2,pq3]
      have OV:=Lh (RN11.out.own.below B12.out)
      have VL:=Lh (show vs.length≤8 by rw [RN11.out.vl,WR.out.len];have:=J8.out;omega)
      refine qZp rfl TO.out (.tmp 53) (.tmp 55) rfl (M4+2+1) v vs [.slice Ax m cx] (some ⟨N5,0,none⟩) 1 1 rfl rfl rfl OV.out R12.out (by intro u hu;simp only [List.mem_cons,List.mem_nil_iff,or_false]at hu;rw [hu];rfl) ?d3 (by have:=VL.out;omega) (by have:=VL.out;omega) ?_
      case d3=>have:=B12.out.size;have:=qQe RN11.out.row;omega
      intro v3 w13 ho hg hat
      have RM:=Lh (show w13.heap[M4+2]?=some (.cells #[v,.slice none 0 0] 35 (0,0))from qQd hg (fun e=>by have:=(RN11.out.own.lt _ e.symm).1;omega) (qQb B12.out (qQe RN11.out.row) RN11.out.row))
      have O3:=Lh ho
      have G3:=Lh hg
      have AT3:=Lh hat
      obtain⟨A3,c3,rfl,_,_,_,_⟩:=ho.read
      have TY:=Lh (OwnV.typed OV.out)
      clear ho hg hat
      simp only [Act.put,pq1,pq2,pq3]
      refine qQa (by rfl) (by go_simp;rfl) ?_
      simp only [Act.put,pq1,pq2,pq3]
      refine qQs (by rfl) (fun K hK=>?_)
      refine qVg (.tmp 57) (.tmp 56) rfl (M4+2) 0 _ _ _ rfl rfl RM.out (by simp) ?_
      intro w14 hr14 hg14 _
      have RN14:=Lh (RN11.out.next RX.out MX.out MC.out (fun a e=>⟨by have:=(AX.out a e).1;have:=B10.out.size;have:=A8S.out;have:=qQe RN.out.row;omega,(AX.out a e).2,fun e2=>by have:=(RN.out.own.lt _ e2.symm).2;have:=(AX.out a e).1;have:=B10.out.size;have:=A8S.out;omega⟩) B12.out O3.out G3.out AT3.out hr14 hg14)
      have BX13:=Lh ((BX11.out.keep B12.out).grownT G3.out HD.out HW0.out (fun q' e=>by
       obtain⟨h1,cur,fr,h2⟩:=TY.out q' e
       exact⟨by have:=LM.out;omega,cur,_,fr,h2,by decide⟩))
      have BX14:=Lh (BX13.out.grownT hg14 HD.out HW0.out (fun q' e=>by cases e;exact⟨by have:=LM.out;omega,_,_,_,RM.out,by decide⟩))
      have WR14:=Lh (show WrapsR y zs s (j+1) sZ (xs++[x])from .succ WR.out (by rw [EQ.out];exact SE.out))
      clear hr14 hg14
      refine hK.out _ _ ?_
      clear hK K
      simp only [Act.put,pq1,pq2,pq3]
      go_wp2_with fail
      go_roundw
      case rel=>exact⟨j+1,sZ,xs++[x],_,_,by have:=J8.out;omega,by go_num,WR14.out,BX14.out,RN14.out⟩
      case measure=>have:=J8.out;simp [intOf];omega
  ·obtain rfl:j=8:=by have:=J.out;omega
   clear hlt
   have HQ4:=Lh (show M4≠g∧M4≠S∧M4≠b by have:=LM.out;have:=LOW.out;omega)
   have R4P:=Lh (qZm R4.out RN.out.fr HQ4.out)
   have RO:=Lh (qVN (y:=y) (W:=wp) (b:=M4) (o:=0) (by rw [←CE.out];exact qQ5 R4P.out) HY.out.1)
   have ZK:=Lh (qWv HY.out.2)
   have RP:=Lh ((HR.out.keep B2.out).boxF RN.out.fr HA.out)
   have DX:=Lh (show ∀W:World,RdM W A zs→Calls Tryz.prog 45 #[.slice A q c] W fun e w'=>∃v,e=.returned v∧OwnB w' W.heap.size v (dirL zs)∧Below W.heap.size W w' by intro W hR;rw [←Q1.out];exact dir_any W A c zs hR (by rw [Q1.out];exact Q8.out) HNN.out)
   have DL:=Lh (qXu HR.out.ok (show zs.length≤8 by rw [Q1.out];exact Q8.out))
   have HQ6:=Lh (show M4+1≠g∧M4+1≠S∧M4+1≠b by have:=LM.out;have:=LOW.out;omega)
   go_upto_region 15 with fail
   have C4:=Lh (show wp.drew.heap[M4]?=some (.cells cs.toArray 40 (0,0))from R4P.out)
   have BWD:=Lh (show Below wp.heap.size wp wp.drew from(Below.refl _ _).drew)
   refine qZ5 (fun W=>W.heap[M4]?=some (.cells cs.toArray 40 (0,0))) (.q 0 (.q 1 (.q 2 (.q 5 (.two 3 (.two 4 (.t 6 (.t 7 (.q 8 (.q 9 (.q 10 (.q 11 (.q 12 .done))))))) 6 (.t 4 (.t 7 (.q 8 (.q 9 (.q 10 (.q 11 (.q 12 .done)))))))) 6 (.t 3 (.t 4 (.t 7 (.q 8 (.q 9 (.q 10 (.q 11 (.q 12 .done))))))))))))) (by kernel_rfl) (by kernel_rfl) (fun _ _ d _ _ h=>by cases d<;>exact h) ?_
   generalize World.drew wp=wd at C4 BWD ⊢
   have Z:=Lh (Below.refl wd.heap.size wd)
   have M4L:=Lh (qQe C4.out)
   refine qQn rfl rfl C4.out (fun W hW=>by go_simp;rfl) ?_
   simp only [Act.put,pq1,pq2,pq3]
   refine qQn rfl rfl C4.out (fun W hW=>by go_simp;rfl) ?_
   simp only [Act.put,pq1,pq2,pq3]
   refine qQn rfl rfl C4.out (fun W hW=>qQI 38 (.tmp 61) rfl M4 33 rfl (B8 y.o) (by have h1:=qVN (y:=y) (W:=W) (b:=M4) (o:=0) (by rw [←CE.out];exact qQ5 hW) HY.out.1;rwa [Nat.zero_add]at h1) Tryz.underlying38 rfl ZK.out) ?_
   simp only [Act.put,pq1,pq2,pq3]
   refine qQn rfl rfl C4.out (fun W hW=>by go_simp;rfl) ?_
   simp only [Act.put,pq1,pq2,pq3]
   refine qZh ?_ ?_
   ·
    refine qQx rfl rfl (fun K hK=>?_)
    refine wp_dir rfl ?_
    generalize hB:Array.size (World.heap _)=N3
    generalize hw:World.alloc _ _=wn
    have hb:=Lh (show Below _ _ wn by rw [←hw];exact qQh _ _)
    have R3:=Lh (show wn.heap[N3]?=some (.cells (W8 dirB) 5 (0,0)) by rw [←hw];exact qQk _ _ _ hB.symm)
    have N3L:=Lh (show wd.heap.size≤N3 by rw [←hB];exact Z.out.size)
    try have ND:=Lh (show ∀a,Ad=some a→a.block≠N3 by intro a e;have:=(AD.out a e).2;omega)
    try have RDD:=Lh (RDD.out.keep hb.out)
    have Z:=Lh (Z.out.trans (hb.out.mono Z.out.size))
    have C4:=Lh (qQb hb.out (qQe C4.out) C4.out)
    clear hB hw hb
    refine hK.out _ _ C4.out ?_
    clear hK K
    refine qZh ?_ ?_
    ·
     refine qQx rfl rfl (fun K hK=>?_)
     refine wp_cv (.tmp 63) rfl R3.out rfl ?_
     intro wc hr hg _
     have RDB:=Lh (show RdB wc (some ⟨N3,0,none⟩) dirB from RdB.row hr)
     try have RDD:=Lh (RDD.out.grown hg (fun q' e a ea=>by cases e;exact ND.out a ea))
     have Z:=Lh (qQo Z.out hg N3L.out)
     have C4:=Lh (qQd hg (fun e=>by have:=Option.some.inj e;have:=N3L.out;have:=M4L.out;omega) C4.out)
     clear hr hg R3
     refine hK.out _ _ C4.out ?_
     clear hK K
     refine qQx rfl rfl (fun K hK=>?_)
     go_simp
     refine(DX.out _ ((RP.out.keep BWD.out).keep Z.out)).mono ?_
     rintro e wz ⟨v6,rfl,ho,hb⟩
     obtain⟨Ad,cd,rfl,hrd,hcd,_,had⟩:=ho.read
     rw[DL.out]
     have RDD:=Lh hrd
     have CDD:=Lh (show 273≤cd by rw [←DL.out];exact hcd)
     have AD:=Lh (show ∀a,Ad=some a→wd.heap.size≤a.block∧a.block<wz.heap.size from fun a e=>⟨kQk Z.out.size (had a e).1,(had a e).2⟩)
     try have ND:=Lh (show ∀a,Ad=some a→a.block≠N3 by intro a e;have:=(had a e).1;have:=qQe R3.out;omega)
     try have R3:=Lh (qQb hb (qQe R3.out) R3.out)
     try have RDB:=Lh (RDB.out.keep hb)
     have Z:=Lh (Z.out.trans (hb.mono Z.out.size))
     have C4:=Lh (qQb hb (qQe C4.out) C4.out)
     clear ho hb hrd hcd had
     refine hK.out _ _ C4.out ?_
     clear hK K
     refine qQx rfl rfl (fun K hK=>?_)
     go_simp
     refine(qVB w0 g S D b lo s1 _ ((BX.out.keep BWD.out).keep Z.out) (by rw [BD.out.1];exact HMO.out) (dirE y zs) HY.out.2 (some ⟨N3,0,none⟩) 3 3 rfl RDB.out (by omega) Ad 273 cd DL.out CDD.out RDD.out
      (fun _ a e=>by have:=(AD.out a e).1;have:=LOW.out;have:=BWD.out.size;have:=RN.out.fr.1;have:=s2.out;have:=LM.out;omega) (by omega) (by have:=BD.out.2.2.1;have:=HU.out;omega) (by rw [BD.out.2.1];exact HF.out) (by have:=BD.out.2.2.2.2;have:=HM.out;omega) (by have:=BD.out.2.2.2.1;have:=HN.out;omega)
      (by have:=Z.out.size;have:=BWD.out.size;have:=RN.out.fr.1;have:=s2.out;have:=LM.out;omega)).mono ?_
     rintro e w11 ⟨Ax,m,cx,sZ,r,rfl,hse,hrx,hmx,hmc,hax,hbx,hbf⟩
     have RN11:=Lh (((RN.out.keep BWD.out).keep Z.out).boxF hbf)
     have BX11:=Lh hbx
     have SE:=Lh hse
     have C4:=Lh (qZm C4.out hbf HQ4.out)
     have R6X:=Lh (qZm R6.out RN11.out.fr HQ6.out)
     have RX:=Lh hrx
     have MX:=Lh hmx
     have MC:=Lh hmc
     have AX:=Lh (show ∀a,Ax=some a→wp.heap.size≤a.block∧a.block<w11.heap.size from fun a e=>⟨kQk BWD.out.size (kQk Z.out.size (hax a e).1),(hax a e).2⟩)
     clear hse hrx hmx hmc hax hbx hbf
     refine hK.out _ _ C4.out ?_
     clear hK K
     refine qQn rfl rfl C4.out (fun W hW=>by go_simp;rfl) ?_
     simp only [Act.put,pq1,pq2,pq3]
     refine qQn rfl rfl C4.out (fun W hW=>by go_simp;rfl) ?_
     simp only [Act.put,pq1,pq2,pq3]
     refine qQn rfl rfl C4.out (fun W hW=>by go_simp;rfl) ?_
     simp only [Act.put,pq1,pq2,pq3]
     refine qQn rfl rfl C4.out (fun W hW=>by go_simp;rfl) ?_
     simp only [Act.put,pq1,pq2,pq3]
     refine qQn rfl rfl C4.out (fun W hW=>by go_simp;rfl) ?_
     simp only [Act.put,pq1,pq2,pq3]
     refine qQ8 ?_
     rcases r with _|x
     ·simp only [Option.isSome_none,Bool.false_eq_true,if_false]
      go_wp2_with (refine qQf rfl rfl 35 (.tmp 6) (.tmp 72) rfl (M4+1) RingZ rfl rfl 35 _ R6X.out qQ9 rfl qZ2 ?_;intro w12 hz12 hg12 _)
      refine qZP (M4+1) 35 RingZ _ rfl rfl rfl rfl hz12 Tryz.underlying35 rfl qQ9 ⟨sZ,none,.inr (.inl ⟨s1,xs,WR.out,SE.out,rfl⟩),BX11.out.grownT hg12 HD.out HW0.out ?_,?_,rfl⟩
      ·rintro q' ⟨⟩
       exact⟨by have:=LM.out;omega,_,_,_,R6X.out,by decide⟩
      ·exact(qXH B2.out RN11.out.fr).grown hg12 (fun k e=>by cases e;exact .inr (.inr (.inr (by rw [ME.out];omega))))
     ·simp only [Option.isSome_some,if_true]
      have RX:=Lh (show RdB w11 Ax x from RX.out)
      have MX:=Lh (show x.length=m from MX.out)
      obtain⟨Av,cv,hv,_,_,_,_⟩:=RN11.out.own.read
      have VE:=Lh hv
      clear hv
      go_upto_region 18 with fail
      refine wp_region_list ?_
      simp only [kQf]
      refine qQa (by rfl) (by go_simp;rfl) ?_
      simp only [Act.put,pq1,pq2,pq3]
      refine qQa (by rfl) (by go_simp;rfl) ?_
      simp only [Act.put,pq1,pq2,pq3]
      refine qQs (by rfl) (fun K hK=>?_)
      refine qWx (.tmp 75) (.tmp 74) rfl (M4+2) 1 _ _ _ rfl rfl RN11.out.row (by simp) ?_
      intro w12 hr12 hg12 _
      have R12:=Lh (show w12.heap[M4+2]?=some (.cells #[v,.slice Ax m cx] 35 (0,0))from hr12)
      have R6Y:=Lh (qQd hg12 (fun e=>by have:=Option.some.inj e;omega) R6X.out)
      have BX12:=Lh (BX11.out.grownT hg12 HD.out HW0.out (fun q' e=>by cases e;exact⟨by have:=LM.out;omega,_,_,_,RN11.out.row,by decide⟩))
      have F12:=Lh ((qXH B2.out RN11.out.fr).grown hg12 (fun k e=>by cases e;exact .inr (.inr (.inr (by rw [ME.out];omega)))))
      have RG11:=Lh (RN11.out.ring (BoxF.refl g S b w11) RX.out MX.out MC.out (fun a e=>by have:=(AX.out a e).1;have:=qQe RN.out.row;have:=(AX.out a e).2;omega))
      have RG12:=Lh (RG11.out.grown hg12 (by omega))
      have ONE:=Lh (show(#[v,.slice Ax m cx]:Array Value).all (·.oneCell')=true by rw [VE.out];simp [Value.oneCell'])
      clear hr12 hg12
      refine hK.out _ _ ?_
      clear hK K
      simp only [Act.put,pq1,pq2,pq3]
      go_upto_region 19 with fail
      refine wp_region_list ?_
      simp only [kQf]
      refine qQa (by rfl) (qQj 35 (.tmp 8) rfl (M4+2) rfl 35 #[v,.slice Ax m cx] (0,0) _ R12.out Tryz.underlying35 rfl qZi) ?_
      simp only [Act.put,pq1,pq2,pq3]
      refine qQf rfl rfl 35 (.tmp 6) (.tmp 76) rfl (M4+1) #[v,.slice Ax m cx] rfl rfl 35 _ R6Y.out qZi rfl ONE.out ?_
      intro w13 hz13 hg13 _
      have BX13:=Lh (BX12.out.grownT hg13 HD.out HW0.out (fun q' e=>by cases e;exact⟨by have:=LM.out;omega,_,_,_,R6Y.out,by decide⟩))
      have F13:=Lh (F12.out.grown hg13 (fun k e=>by cases e;exact .inr (.inr (.inr (by rw [ME.out];omega)))))
      have RG13:=Lh ((RG12.out.grown hg13 (by omega)).low (show w.heap.size≤M4+2+1 by rw [ME.out];omega))
      have Z13:=Lh hz13
      clear hz13 hg13
      go_wp2_with fail
      exact qZP (M4+1) 35 #[v,.slice Ax m cx] _ rfl rfl rfl rfl Z13.out Tryz.underlying35 rfl qZi ⟨sZ,some (xs,x),.inr (.inr ⟨s1,xs,x,WR.out,SE.out,rfl⟩),BX13.out,F13.out,_,rfl,RG13.out⟩
    ·
     refine qQx rfl rfl (fun K hK=>?_)
     go_simp
     refine(DX.out _ ((RP.out.keep BWD.out).keep Z.out)).mono ?_
     rintro e wz ⟨v6,rfl,ho,hb⟩
     obtain⟨Ad,cd,rfl,hrd,hcd,_,had⟩:=ho.read
     rw[DL.out]
     have RDD:=Lh hrd
     have CDD:=Lh (show 273≤cd by rw [←DL.out];exact hcd)
     have AD:=Lh (show ∀a,Ad=some a→wd.heap.size≤a.block∧a.block<wz.heap.size from fun a e=>⟨kQk Z.out.size (had a e).1,(had a e).2⟩)
     try have ND:=Lh (show ∀a,Ad=some a→a.block≠N3 by intro a e;have:=(had a e).1;have:=qQe R3.out;omega)
     try have R3:=Lh (qQb hb (qQe R3.out) R3.out)
     try have RDB:=Lh (RDB.out.keep hb)
     have Z:=Lh (Z.out.trans (hb.mono Z.out.size))
     have C4:=Lh (qQb hb (qQe C4.out) C4.out)
     clear ho hb hrd hcd had
     refine hK.out _ _ C4.out ?_
     clear hK K
     refine qQx rfl rfl (fun K hK=>?_)
     refine wp_cv (.tmp 63) rfl R3.out rfl ?_
     intro wc hr hg _
     have RDB:=Lh (show RdB wc (some ⟨N3,0,none⟩) dirB from RdB.row hr)
     try have RDD:=Lh (RDD.out.grown hg (fun q' e a ea=>by cases e;exact ND.out a ea))
     have Z:=Lh (qQo Z.out hg N3L.out)
     have C4:=Lh (qQd hg (fun e=>by have:=Option.some.inj e;have:=N3L.out;have:=M4L.out;omega) C4.out)
     clear hr hg R3
     refine hK.out _ _ C4.out ?_
     clear hK K
     refine qQx rfl rfl (fun K hK=>?_)
     go_simp
     refine(qVB w0 g S D b lo s1 _ ((BX.out.keep BWD.out).keep Z.out) (by rw [BD.out.1];exact HMO.out) (dirE y zs) HY.out.2 (some ⟨N3,0,none⟩) 3 3 rfl RDB.out (by omega) Ad 273 cd DL.out CDD.out RDD.out
      (fun _ a e=>by have:=(AD.out a e).1;have:=LOW.out;have:=BWD.out.size;have:=RN.out.fr.1;have:=s2.out;have:=LM.out;omega) (by omega) (by have:=BD.out.2.2.1;have:=HU.out;omega) (by rw [BD.out.2.1];exact HF.out) (by have:=BD.out.2.2.2.2;have:=HM.out;omega) (by have:=BD.out.2.2.2.1;have:=HN.out;omega)
      (by have:=Z.out.size;have:=BWD.out.size;have:=RN.out.fr.1;have:=s2.out;have:=LM.out;omega)).mono ?_
     rintro e w11 ⟨Ax,m,cx,sZ,r,rfl,hse,hrx,hmx,hmc,hax,hbx,hbf⟩
     have RN11:=Lh (((RN.out.keep BWD.out).keep Z.out).boxF hbf)
     have BX11:=Lh hbx
     have SE:=Lh hse
     have C4:=Lh (qZm C4.out hbf HQ4.out)
     have R6X:=Lh (qZm R6.out RN11.out.fr HQ6.out)
     have RX:=Lh hrx
     have MX:=Lh hmx
     have MC:=Lh hmc
     have AX:=Lh (show ∀a,Ax=some a→wp.heap.size≤a.block∧a.block<w11.heap.size from fun a e=>⟨kQk BWD.out.size (kQk Z.out.size (hax a e).1),(hax a e).2⟩)
     clear hse hrx hmx hmc hax hbx hbf
     refine hK.out _ _ C4.out ?_
     clear hK K
     refine qQn rfl rfl C4.out (fun W hW=>by go_simp;rfl) ?_
     simp only [Act.put,pq1,pq2,pq3]
     refine qQn rfl rfl C4.out (fun W hW=>by go_simp;rfl) ?_
     simp only [Act.put,pq1,pq2,pq3]
     refine qQn rfl rfl C4.out (fun W hW=>by go_simp;rfl) ?_
     simp only [Act.put,pq1,pq2,pq3]
     refine qQn rfl rfl C4.out (fun W hW=>by go_simp;rfl) ?_
     simp only [Act.put,pq1,pq2,pq3]
     refine qQn rfl rfl C4.out (fun W hW=>by go_simp;rfl) ?_
     simp only [Act.put,pq1,pq2,pq3]
     refine qQ8 ?_
     rcases r with _|x
     ·simp only [Option.isSome_none,Bool.false_eq_true,if_false]
      go_wp2_with (refine qQf rfl rfl 35 (.tmp 6) (.tmp 72) rfl (M4+1) RingZ rfl rfl 35 _ R6X.out qQ9 rfl qZ2 ?_;intro w12 hz12 hg12 _)
      refine qZP (M4+1) 35 RingZ _ rfl rfl rfl rfl hz12 Tryz.underlying35 rfl qQ9 ⟨sZ,none,.inr (.inl ⟨s1,xs,WR.out,SE.out,rfl⟩),BX11.out.grownT hg12 HD.out HW0.out ?_,?_,rfl⟩
      ·rintro q' ⟨⟩
       exact⟨by have:=LM.out;omega,_,_,_,R6X.out,by decide⟩
      ·exact(qXH B2.out RN11.out.fr).grown hg12 (fun k e=>by cases e;exact .inr (.inr (.inr (by rw [ME.out];omega))))
     ·simp only [Option.isSome_some,if_true]
      have RX:=Lh (show RdB w11 Ax x from RX.out)
      have MX:=Lh (show x.length=m from MX.out)
      obtain⟨Av,cv,hv,_,_,_,_⟩:=RN11.out.own.read
      have VE:=Lh hv
      clear hv
      go_upto_region 18 with fail
      refine wp_region_list ?_
      simp only [kQf]
      refine qQa (by rfl) (by go_simp;rfl) ?_
      simp only [Act.put,pq1,pq2,pq3]
      refine qQa (by rfl) (by go_simp;rfl) ?_
      simp only [Act.put,pq1,pq2,pq3]
      refine qQs (by rfl) (fun K hK=>?_)
      refine qWx (.tmp 75) (.tmp 74) rfl (M4+2) 1 _ _ _ rfl rfl RN11.out.row (by simp) ?_
      intro w12 hr12 hg12 _
      have R12:=Lh (show w12.heap[M4+2]?=some (.cells #[v,.slice Ax m cx] 35 (0,0))from hr12)
      have R6Y:=Lh (qQd hg12 (fun e=>by have:=Option.some.inj e;omega) R6X.out)
      have BX12:=Lh (BX11.out.grownT hg12 HD.out HW0.out (fun q' e=>by cases e;exact⟨by have:=LM.out;omega,_,_,_,RN11.out.row,by decide⟩))
      have F12:=Lh ((qXH B2.out RN11.out.fr).grown hg12 (fun k e=>by cases e;exact .inr (.inr (.inr (by rw [ME.out];omega)))))
      have RG11:=Lh (RN11.out.ring (BoxF.refl g S b w11) RX.out MX.out MC.out (fun a e=>by have:=(AX.out a e).1;have:=qQe RN.out.row;have:=(AX.out a e).2;omega))
      have RG12:=Lh (RG11.out.grown hg12 (by omega))
      have ONE:=Lh (show(#[v,.slice Ax m cx]:Array Value).all (·.oneCell')=true by rw [VE.out];simp [Value.oneCell'])
      clear hr12 hg12
      refine hK.out _ _ ?_
      clear hK K
      simp only [Act.put,pq1,pq2,pq3]
      go_upto_region 19 with fail
      refine wp_region_list ?_
      simp only [kQf]
      refine qQa (by rfl) (qQj 35 (.tmp 8) rfl (M4+2) rfl 35 #[v,.slice Ax m cx] (0,0) _ R12.out Tryz.underlying35 rfl qZi) ?_
      simp only [Act.put,pq1,pq2,pq3]
      refine qQf rfl rfl 35 (.tmp 6) (.tmp 76) rfl (M4+1) #[v,.slice Ax m cx] rfl rfl 35 _ R6Y.out qZi rfl ONE.out ?_
      intro w13 hz13 hg13 _
      have BX13:=Lh (BX12.out.grownT hg13 HD.out HW0.out (fun q' e=>by cases e;exact⟨by have:=LM.out;omega,_,_,_,R6Y.out,by decide⟩))
      have F13:=Lh (F12.out.grown hg13 (fun k e=>by cases e;exact .inr (.inr (.inr (by rw [ME.out];omega)))))
      have RG13:=Lh ((RG12.out.grown hg13 (by omega)).low (show w.heap.size≤M4+2+1 by rw [ME.out];omega))
      have Z13:=Lh hz13
      clear hz13 hg13
      go_wp2_with fail
      exact qZP (M4+1) 35 #[v,.slice Ax m cx] _ rfl rfl rfl rfl Z13.out Tryz.underlying35 rfl qZi ⟨sZ,some (xs,x),.inr (.inr ⟨s1,xs,x,WR.out,SE.out,rfl⟩),BX13.out,F13.out,_,rfl,RG13.out⟩
   ·
    refine qQx rfl rfl (fun K hK=>?_)
    go_simp
    refine(DX.out _ ((RP.out.keep BWD.out).keep Z.out)).mono ?_
    rintro e wz ⟨v6,rfl,ho,hb⟩
    obtain⟨Ad,cd,rfl,hrd,hcd,_,had⟩:=ho.read
    rw[DL.out]
    have RDD:=Lh hrd
    have CDD:=Lh (show 273≤cd by rw [←DL.out];exact hcd)
    have AD:=Lh (show ∀a,Ad=some a→wd.heap.size≤a.block∧a.block<wz.heap.size from fun a e=>⟨kQk Z.out.size (had a e).1,(had a e).2⟩)
    try have ND:=Lh (show ∀a,Ad=some a→a.block≠N3 by intro a e;have:=(had a e).1;have:=qQe R3.out;omega)
    try have R3:=Lh (qQb hb (qQe R3.out) R3.out)
    try have RDB:=Lh (RDB.out.keep hb)
    have Z:=Lh (Z.out.trans (hb.mono Z.out.size))
    have C4:=Lh (qQb hb (qQe C4.out) C4.out)
    clear ho hb hrd hcd had
    refine hK.out _ _ C4.out ?_
    clear hK K
    refine qQx rfl rfl (fun K hK=>?_)
    refine wp_dir rfl ?_
    generalize hB:Array.size (World.heap _)=N3
    generalize hw:World.alloc _ _=wn
    have hb:=Lh (show Below _ _ wn by rw [←hw];exact qQh _ _)
    have R3:=Lh (show wn.heap[N3]?=some (.cells (W8 dirB) 5 (0,0)) by rw [←hw];exact qQk _ _ _ hB.symm)
    have N3L:=Lh (show wd.heap.size≤N3 by rw [←hB];exact Z.out.size)
    try have ND:=Lh (show ∀a,Ad=some a→a.block≠N3 by intro a e;have:=(AD.out a e).2;omega)
    try have RDD:=Lh (RDD.out.keep hb.out)
    have Z:=Lh (Z.out.trans (hb.out.mono Z.out.size))
    have C4:=Lh (qQb hb.out (qQe C4.out) C4.out)
    clear hB hw hb
    refine hK.out _ _ C4.out ?_
    clear hK K
    refine qQx rfl rfl (fun K hK=>?_)
    refine wp_cv (.tmp 63) rfl R3.out rfl ?_
    intro wc hr hg _
    have RDB:=Lh (show RdB wc (some ⟨N3,0,none⟩) dirB from RdB.row hr)
    try have RDD:=Lh (RDD.out.grown hg (fun q' e a ea=>by cases e;exact ND.out a ea))
    have Z:=Lh (qQo Z.out hg N3L.out)
    have C4:=Lh (qQd hg (fun e=>by have:=Option.some.inj e;have:=N3L.out;have:=M4L.out;omega) C4.out)
    clear hr hg R3
    refine hK.out _ _ C4.out ?_
    clear hK K
    refine qQx rfl rfl (fun K hK=>?_)
    go_simp
    refine(qVB w0 g S D b lo s1 _ ((BX.out.keep BWD.out).keep Z.out) (by rw [BD.out.1];exact HMO.out) (dirE y zs) HY.out.2 (some ⟨N3,0,none⟩) 3 3 rfl RDB.out (by omega) Ad 273 cd DL.out CDD.out RDD.out
     (fun _ a e=>by have:=(AD.out a e).1;have:=LOW.out;have:=BWD.out.size;have:=RN.out.fr.1;have:=s2.out;have:=LM.out;omega) (by omega) (by have:=BD.out.2.2.1;have:=HU.out;omega) (by rw [BD.out.2.1];exact HF.out) (by have:=BD.out.2.2.2.2;have:=HM.out;omega) (by have:=BD.out.2.2.2.1;have:=HN.out;omega)
     (by have:=Z.out.size;have:=BWD.out.size;have:=RN.out.fr.1;have:=s2.out;have:=LM.out;omega)).mono ?_
    rintro e w11 ⟨Ax,m,cx,sZ,r,rfl,hse,hrx,hmx,hmc,hax,hbx,hbf⟩
    have RN11:=Lh (((RN.out.keep BWD.out).keep Z.out).boxF hbf)
    have BX11:=Lh hbx
    have SE:=Lh hse
    have C4:=Lh (qZm C4.out hbf HQ4.out)
    have R6X:=Lh (qZm R6.out RN11.out.fr HQ6.out)
    have RX:=Lh hrx
    have MX:=Lh hmx
    have MC:=Lh hmc
    have AX:=Lh (show ∀a,Ax=some a→wp.heap.size≤a.block∧a.block<w11.heap.size from fun a e=>⟨kQk BWD.out.size (kQk Z.out.size (hax a e).1),(hax a e).2⟩)
    clear hse hrx hmx hmc hax hbx hbf
    refine hK.out _ _ C4.out ?_
    clear hK K
    refine qQn rfl rfl C4.out (fun W hW=>by go_simp;rfl) ?_
    simp only [Act.put,pq1,pq2,pq3]
    refine qQn rfl rfl C4.out (fun W hW=>by go_simp;rfl) ?_
    simp only [Act.put,pq1,pq2,pq3]
    refine qQn rfl rfl C4.out (fun W hW=>by go_simp;rfl) ?_
    simp only [Act.put,pq1,pq2,pq3]
    refine qQn rfl rfl C4.out (fun W hW=>by go_simp;rfl) ?_
    simp only [Act.put,pq1,pq2,pq3]
    refine qQn rfl rfl C4.out (fun W hW=>by go_simp;rfl) ?_
    simp only [Act.put,pq1,pq2,pq3]
    refine qQ8 ?_
    rcases r with _|x
    ·simp only [Option.isSome_none,Bool.false_eq_true,if_false]
     go_wp2_with (refine qQf rfl rfl 35 (.tmp 6) (.tmp 72) rfl (M4+1) RingZ rfl rfl 35 _ R6X.out qQ9 rfl qZ2 ?_;intro w12 hz12 hg12 _)
     refine qZP (M4+1) 35 RingZ _ rfl rfl rfl rfl hz12 Tryz.underlying35 rfl qQ9 ⟨sZ,none,.inr (.inl ⟨s1,xs,WR.out,SE.out,rfl⟩),BX11.out.grownT hg12 HD.out HW0.out ?_,?_,rfl⟩
     ·rintro q' ⟨⟩
      exact⟨by have:=LM.out;omega,_,_,_,R6X.out,by decide⟩
     ·exact(qXH B2.out RN11.out.fr).grown hg12 (fun k e=>by cases e;exact .inr (.inr (.inr (by rw [ME.out];omega))))
    ·simp only [Option.isSome_some,if_true]
     have RX:=Lh (show RdB w11 Ax x from RX.out)
     have MX:=Lh (show x.length=m from MX.out)
     obtain⟨Av,cv,hv,_,_,_,_⟩:=RN11.out.own.read
     have VE:=Lh hv
     clear hv
     go_upto_region 18 with fail
     refine wp_region_list ?_
     simp only [kQf]
     refine qQa (by rfl) (by go_simp;rfl) ?_
     simp only [Act.put,pq1,pq2,pq3]
     refine qQa (by rfl) (by go_simp;rfl) ?_
     simp only [Act.put,pq1,pq2,pq3]
     refine qQs (by rfl) (fun K hK=>?_)
     refine qWx (.tmp 75) (.tmp 74) rfl (M4+2) 1 _ _ _ rfl rfl RN11.out.row (by simp) ?_
     intro w12 hr12 hg12 _
     have R12:=Lh (show w12.heap[M4+2]?=some (.cells #[v,.slice Ax m cx] 35 (0,0))from hr12)
     have R6Y:=Lh (qQd hg12 (fun e=>by have:=Option.some.inj e;omega) R6X.out)
     have BX12:=Lh (BX11.out.grownT hg12 HD.out HW0.out (fun q' e=>by cases e;exact⟨by have:=LM.out;omega,_,_,_,RN11.out.row,by decide⟩))
     have F12:=Lh ((qXH B2.out RN11.out.fr).grown hg12 (fun k e=>by cases e;exact .inr (.inr (.inr (by rw [ME.out];omega)))))
     have RG11:=Lh (RN11.out.ring (BoxF.refl g S b w11) RX.out MX.out MC.out (fun a e=>by have:=(AX.out a e).1;have:=qQe RN.out.row;have:=(AX.out a e).2;omega))
     have RG12:=Lh (RG11.out.grown hg12 (by omega))
     have ONE:=Lh (show(#[v,.slice Ax m cx]:Array Value).all (·.oneCell')=true by rw [VE.out];simp [Value.oneCell'])
     clear hr12 hg12
     refine hK.out _ _ ?_
     clear hK K
     simp only [Act.put,pq1,pq2,pq3]
     go_upto_region 19 with fail
     refine wp_region_list ?_
     simp only [kQf]
     refine qQa (by rfl) (qQj 35 (.tmp 8) rfl (M4+2) rfl 35 #[v,.slice Ax m cx] (0,0) _ R12.out Tryz.underlying35 rfl qZi) ?_
     simp only [Act.put,pq1,pq2,pq3]
     refine qQf rfl rfl 35 (.tmp 6) (.tmp 76) rfl (M4+1) #[v,.slice Ax m cx] rfl rfl 35 _ R6Y.out qZi rfl ONE.out ?_
     intro w13 hz13 hg13 _
     have BX13:=Lh (BX12.out.grownT hg13 HD.out HW0.out (fun q' e=>by cases e;exact⟨by have:=LM.out;omega,_,_,_,R6Y.out,by decide⟩))
     have F13:=Lh (F12.out.grown hg13 (fun k e=>by cases e;exact .inr (.inr (.inr (by rw [ME.out];omega)))))
     have RG13:=Lh ((RG12.out.grown hg13 (by omega)).low (show w.heap.size≤M4+2+1 by rw [ME.out];omega))
     have Z13:=Lh hz13
     clear hz13 hg13
     go_wp2_with fail
     exact qZP (M4+1) 35 #[v,.slice Ax m cx] _ rfl rfl rfl rfl Z13.out Tryz.underlying35 rfl qZi ⟨sZ,some (xs,x),.inr (.inr ⟨s1,xs,x,WR.out,SE.out,rfl⟩),BX13.out,F13.out,_,rfl,RG13.out⟩
def kysZ:Kys:=⟨0,z32,z32,false⟩
theorem zeroK:(RowK kysZ).toArray=Tryz.zeroCells40:=by kernel_rfl
theorem build_kys (z:Int) (W:World):(Instr.build 40 #[(0,.int .u64 z),(3,.bool true)]).run Tryz.prog W=.ok (.agg (.int .u64 z::(B8 z32++(B8 z32++[.bool true]))).toArray) W:=by kernel_rfl
theorem build_kysZ (W:World):(Instr.build 40 #[]).run Tryz.prog W=.ok (.agg (RowK kysZ).toArray) W:=by kernel_rfl
theorem run_newK {o:Oper} {a:Act} (x:Operand) (ho:o.op=.build 40 #[(0,x),(3,.const (.bool true))]) (e:UInt64) (hx:a.eval x=.int .u64 (e.toNat:Int)) (W:World):(execOp a.eval o).run Tryz.prog W=.ok (.value (.agg (RowK ⟨e,z32,z32,true⟩).toArray)) W:=by
 unfold execOp
 simp only [ho,kQs,kQw,List.map_nil,hx,show a.eval (.const (.bool true))=.bool true from rfl,Sem.run_bind,build_kys,Result.andThen_ok,Sem.run_pure,RowK]
theorem qVl {o:Oper} {a:Act} (ho:o.op=.build 40 #[]) (W:World):(execOp a.eval o).run Tryz.prog W=.ok (.value (.agg (RowK kysZ).toArray)) W:=by
 unfold execOp
 simp only [ho,kQs,List.map_nil,Sem.run_bind,build_kysZ,Result.andThen_ok,Sem.run_pure]
theorem qZr:OkK kysZ:=⟨rfl,rfl⟩
def qVu (s:BSt) (ep:UInt64):Kys:=⟨ep,qQR s.F s.u 32,qQR s.F (s.u+32) 32,true⟩
theorem qKW (s:BSt) (ep:UInt64):OkK (qVu s ep):=⟨qQy _ _ _,qQy _ _ _⟩
theorem qZN {l:List Mem} (h:qZd l=true):l.length≤8∧∀z∈l,0≤z.n∧z.n≤255:=by
 simp only [qZd,Bool.and_eq_true,decide_eq_true_eq]at h
 refine⟨h.1.1,fun z hz=>?_⟩
 obtain⟨j,hj⟩:=List.getElem?_of_mem hz
 have h1:=h.2
 simp only [qWs,List.all_eq_true,List.mem_range,Bool.or_eq_true,decide_eq_true_eq]at h1
 have h2:=h1 j (List.getElem?_eq_some_iff.1 hj).1
 rw[hj]at h2
 simp only [okAt,Bool.and_eq_true,decide_eq_true_eq]at h2
 omega
theorem qQO (y:Kys) (h:OkK y):(Tryz.prog.info? 40).map (·.size)=some (RowK y).toArray.size:=by rw [List.size_toArray,qXP h];exact qKv
theorem qXN (y:Kys) (h:OkK y):(RowK y).toArray.size=66:=by rw [List.size_toArray,qXP h]
def MakeP (w0:World) (g S D b lo:Nat) (ep:UInt64) (l:List Mem) (s:BSt) (w:World) (e:Ending) (w':World):Prop:=
 (qZd l=false∧e=.returned (.tuple #[.agg RingZ,.agg (RowK kysZ).toArray,.int .i64 2])∧Below w.heap.size w w')∨
 (qZd l=true∧∃s' r,qYn (qVu s ep) l { s with u:=s.u+64 } s' r∧BoxB w0 g S D b lo s' w'∧BoxF g S b w w'∧
  match r with
  | none=>e=.returned (.tuple #[.agg RingZ,.agg (RowK kysZ).toArray,.int .i64 15])
  | some (xs,d)=>∃v,e=.returned (.tuple #[v,.agg (RowK (qVu s ep)).toArray,.int .i64 0])∧RgB w.heap.size w' v xs d)
theorem rowK_k {y:Kys} (h:OkK y) (k:List UInt8) (hk:k.length=32):((RowK y).toArray.toList.take 1++((W8 k).toList++(RowK y).toArray.toList.drop (1+(W8 k).size))).toArray=(RowK { y with k:=k }).toArray:=by
 rw[qQw,hk]
 exact congrArg List.toArray (rowK_setK h k default)
theorem rowK_o {y:Kys} (h:OkK y) (o:List UInt8) (ho:o.length=32):((RowK y).toArray.toList.take 33++((W8 o).toList++(RowK y).toArray.toList.drop (33+(W8 o).size))).toArray=(RowK { y with o:=o }).toArray:=by
 rw[qQw,ho]
 exact congrArg List.toArray (rowK_setO h o default)
theorem qJE {k:List UInt8} (h:k.length=32):(Tryz.prog.info? 38).map (·.size)=some (W8 k).size:=by rw [qQw,h];kernel_rfl
theorem make_any (w0:World) (g S D b lo:Nat) (s:BSt) (w:World) (h:BoxB w0 g S D b lo s w) (hmo:s.mode=0∨s.mode=1) (ep:UInt64) (A:Option Addr) (c:Nat) (zs:List Mem) (R:RdM w A zs) (hc:zs.length≤c) (hz:zs.length≤1000)
  (hA:zs≠[]→∀a,A=some a→a.block≠g∧a.block≠S∧a.block≠b) (hu:s.u+11000≤900000) (hF:s.F.length≤100000) (hm:s.m.length≤5000) (hn:s.n≤50000) (hlo:lo≤w.heap.size) (hD:D<lo) (hw0:w0.heap.size≤lo) :
  Calls Tryz.prog 7 #[.pointer (some ⟨g,0,none⟩),.int .u64 (ep.toNat:Int),.slice A zs.length c] w (MakeP w0 g S D b lo ep zs s w):=by
 have ZK:=Lh zeroK
 have H:=Lh h
 have HMO:=Lh hmo
 have HR:=Lh R
 have HA:=Lh hA
 have HU:=Lh hu
 have HF:=Lh hF
 have HM:=Lh hm
 have HN:=Lh hn
 have HLO:=Lh hlo
 have HD:=Lh hD
 have HW0:=Lh hw0
 have HZ:=Lh hz
 have HC:=Lh hc
 have LOW:=Lh (show g<lo∧S<lo∧b<lo from⟨h.lg,h.lS,h.map.low⟩)
 obtain⟨q,hq⟩:∃q,q=zs.length:=⟨_,rfl⟩
 rw[←hq]
 have Q1:=Lh hq.symm
 clear h hmo R hA hu hF hm hn hlo hD hw0 hq hz hc
 go_enter Tryz.func7,Tryz.ntmps7
 go_upto_region 1 with fail
 rw[←ZK.out]
 generalize hM6:Array.size (World.heap w)=M6
 generalize hwa:World.alloc w _=wa
 have sa:wa.heap.size=M6+1:=by rw [←hwa,qQD,hM6]
 generalize hwb:World.alloc wa _=w2
 have B2:=Lh (show Below w.heap.size w w2 by rw [←hwb,←hwa];exact(qQh _ _).alloc (qQh _ _).size _)
 have s2:=Lh (show w2.heap.size=M6+2 by rw [←hwb,qQD,sa])
 have R6:=Lh (show w2.heap[M6]?=some (.cells RingZ 35 (0,0))from by
  have h1:wa.heap[M6]?=some (.cells RingZ 35 (0,0)):=by rw [←hwa];exact qQk _ _ _ hM6.symm
  rw[←hwb]
  exact qQb (qQh _ _) (qQe h1) h1)
 have R7:=Lh (show w2.heap[M6+1]?=some (.cells (RowK kysZ).toArray 40 (0,0)) by rw [←hwb];exact qQk _ _ _ sa.symm)
 have LM:=Lh (show lo≤M6 by rw [←hM6];exact HLO.out)
 have ME:=Lh hM6
 have H2:=Lh (H.out.keep B2.out)
 clear hwa hwb sa hM6
 go_wp2_with fail
 refine(qKt w0 g S D b lo s w2 H2.out).mono ?_
 rintro e w3 ⟨rfl,hb⟩
 have B3:=Lh hb
 clear hb
 go_wp2_with fail
 have CK:=Lh (show Calls Tryz.prog 10 #[.slice A q c] w3 fun e w'=>e=.returned (.int .i64 (chk zs))∧Below w3.heap.size w3 w' by rw [←Q1.out];exact qVz w3 A c zs ((HR.out.keep B2.out).keep B3.out) HC.out HZ.out)
 refine CK.out.mono ?_
 clear CK
 rintro e w4 ⟨rfl,hb⟩
 have B4:=Lh (show Below w2.heap.size w2 w4 from B3.out.trans (hb.mono B3.out.size))
 clear hb
 have H4:=Lh (H2.out.keep B4.out)
 have R64:=Lh (qQb B4.out (qQe R6.out) R6.out)
 have R74:=Lh (qQb B4.out (qQe R7.out) R7.out)
 rcases hck:qZd zs with _|_
 ·have CF:=Lh hck
  rw[show chk zs=2 by rw [chk,hck];rfl]
  clear hck
  go_upto_region 5 with fail
  refine wp_region_list ?_
  simp only [kQf]
  refine qQa (by rfl) (by go_simp;rfl) ?_
  simp only [Act.put,pq1,pq2,pq3]
  refine qQa (by rfl) (qVl rfl _) ?_
  simp only [Act.put,pq1,pq2,pq3]
  refine qQa (by rfl) (by go_simp;rfl) ?_
  simp only [Act.put,pq1,pq2,pq3]
  refine qQf rfl rfl 35 (.tmp 6) (.tmp 21) rfl M6 RingZ rfl rfl 35 _ R64.out qQ9 rfl qZ2 ?_
  intro w5 hz5 hg5 _
  have R75:=Lh (qQd hg5 (fun e=>by have:=Option.some.inj e;omega) R74.out)
  refine qQf rfl rfl 40 (.tmp 7) (.tmp 22) rfl (M6+1) (RowK kysZ).toArray rfl rfl 40 _ R75.out (qQO _ qZr) rfl (qZO _) ?_
  intro w6 hz6 hg6 _
  have Z5:=Lh (qQd hg6 (fun e=>by have:=Option.some.inj e;omega) hz5)
  have Z6:=Lh hz6
  have BF:=Lh (show Below w.heap.size w w6 from qQo (qQo (B2.out.trans (B4.out.mono B2.out.size)) hg5 (by rw [ME.out];exact kQh _)) hg6 (by rw [ME.out];omega))
  clear hz5 hg5 hz6 hg6
  go_wp2_with fail
  exact qWb M6 (M6+1) 35 40 RingZ (RowK kysZ).toArray _ rfl rfl rfl rfl rfl Z5.out Tryz.underlying35 rfl qQ9 Z6.out Tryz.underlying40 rfl (qQO _ qZr) (.inl ⟨CF.out,rfl,BF.out⟩)
 ·have CT:=Lh hck
  have HA:=Lh (HA.out (fun h0=>by have h1:=CT.out;rw [h0]at h1;simp [qZd]at h1))
  rw[show chk zs=0 by rw [chk,hck];rfl]
  clear hck
  have SP:=Lh (qZN CT.out)
  go_upto_region 6 with fail
  refine wp_region_list ?_
  simp only [kQf]
  refine qQa (by rfl) (by go_simp;rfl) ?_
  simp only [Act.put,pq1,pq2,pq3]
  refine qQa (by rfl) (run_newK (.tmp 24) rfl ep rfl _) ?_
  simp only [Act.put,pq1,pq2,pq3]
  go_upto_region 7 with (refine qQp rfl rfl 40 (.tmp 10) (.tmp 25) rfl (RowK ⟨ep,z32,z32,true⟩).toArray rfl rfl (qQO _ ⟨rfl,rfl⟩) (by rw [←ZK.out,qXN _ qZr,qXN _ ⟨rfl,rfl⟩]) (qZO _) ?_)
  generalize hM10:Array.size (World.heap w4)=M10
  generalize hw5:World.alloc w4 _=w5
  have B5:=Lh (show Below w4.heap.size w4 w5 by rw [←hw5];exact qQh _ _)
  have R10:=Lh (show w5.heap[M10]?=some (.cells (RowK ⟨ep,z32,z32,true⟩).toArray 40 (0,0)) by rw [←hw5];exact qQk _ _ _ hM10.symm)
  have H5:=Lh (H4.out.keep B5.out)
  have M10L:=Lh (show M6+2≤M10 by rw [←hM10,←s2.out];exact B4.out.size)
  have F5:=Lh (show BoxF g S b w2 w5 from((BoxF.refl g S b w2).below B4.out).below B5.out)
  clear hM10 hw5 B5
  obtain⟨X1,hX1⟩:∃X,X=qQR s.F s.u 32:=⟨_,rfl⟩
  obtain⟨X2,hX2⟩:∃X,X=qQR s.F (s.u+32) 32:=⟨_,rfl⟩
  have XE:=Lh (show qVu s ep=⟨ep,X1,X2,true⟩ by rw [qVu,hX1,hX2])
  have L1:=Lh (show X1.length=32 by rw [hX1,qQy])
  have L2:=Lh (show X2.length=32 by rw [hX2,qQy])
  refine wp_region_list ?_
  simp only [kQf]
  refine qQa (by rfl) (by go_simp;rfl) ?_
  simp only [Act.put,pq1,pq2,pq3]
  refine qQs (by rfl) (fun K hK=>?_)
  go_simp
  refine(bkey_any w0 g S D b lo s w5 H5.out (by have:=HU.out;omega) HF.out).mono ?_
  rw[←hX1]
  rintro e w6 ⟨rfl,hb6,hg6⟩
  have H6:=Lh hb6
  have F6:=Lh (F5.out.trans (qVa hg6))
  have R10B:=Lh (qQd hg6 (fun e=>by have:=Option.some.inj e;have:=M10L.out;have:=LM.out;have:=LOW.out;omega) R10.out)
  clear hb6 hg6
  refine hK.out _ _ ?_
  clear hK K
  refine qQa (by rfl) (by go_simp;rfl) ?_
  simp only [Act.put,pq1,pq2,pq3]
  refine qXr rfl 38 (.tmp 28) (.tmp 27) rfl M10 1 (W8 X1) rfl rfl (RowK ⟨ep,z32,z32,true⟩).toArray 40 R10B.out (qJE L1.out) (by rw [qXN _ ⟨rfl,rfl⟩,qQw,L1.out];decide) (qZg _) ?_
  rw[rowK_k ⟨rfl,rfl⟩ X1 L1.out]
  intro w7 hz7 hg7 _
  have LOM:=Lh (show lo≤M10 by have:=M10L.out;have:=LM.out;omega)
  have H7:=Lh (H6.out.grownT hg7 HD.out HW0.out (fun q' e=>by cases e;exact⟨LOM.out,_,_,_,R10B.out,by decide⟩))
  have F7:=Lh (F6.out.grown hg7 (fun k e=>by cases e;exact .inr (.inr (.inr (by rw [s2.out];exact M10L.out)))))
  have R10C:=Lh hz7
  clear hz7 hg7
  simp only [Act.put,pq1,pq2,pq3]
  go_upto_region 8 with fail
  refine wp_region_list ?_
  simp only [kQf]
  refine qQa (by rfl) (by go_simp;rfl) ?_
  simp only [Act.put,pq1,pq2,pq3]
  refine qQs (by rfl) (fun K hK=>?_)
  go_simp
  refine(bkey_any w0 g S D b lo _ w7 H7.out (by have:=HU.out;show s.u+32+32≤900000;omega) HF.out).mono ?_
  rw[←hX2]
  clear hX1 hX2
  rintro e w8 ⟨rfl,hb8,hg8⟩
  have H8:=Lh (show BoxB w0 g S D b lo { s with u:=s.u+64 } w8 from hb8)
  have F8:=Lh (F7.out.trans (qVa hg8))
  have R10D:=Lh (qQd hg8 (fun e=>by have:=Option.some.inj e;have:=M10L.out;have:=LM.out;have:=LOW.out;omega) R10C.out)
  clear hb8 hg8
  refine hK.out _ _ ?_
  clear hK K
  refine qQa (by rfl) (by go_simp;rfl) ?_
  simp only [Act.put,pq1,pq2,pq3]
  refine qXr rfl 38 (.tmp 31) (.tmp 30) rfl M10 33 (W8 X2) rfl rfl (RowK ⟨ep,X1,z32,true⟩).toArray 40 R10D.out (qJE L2.out) (by rw [qXN _ ⟨L1.out,rfl⟩,qQw,L2.out];decide) (qZg _) ?_
  rw[rowK_o ⟨L1.out,rfl⟩ X2 L2.out]
  intro w9 hz9 hg9 _
  have H9:=Lh (H8.out.grownT hg9 HD.out HW0.out (fun q' e=>by cases e;exact⟨LOM.out,_,_,_,R10D.out,by decide⟩))
  have F9:=Lh (F8.out.grown hg9 (fun k e=>by cases e;exact .inr (.inr (.inr (by rw [s2.out];exact M10L.out)))))
  have R10E:=Lh (show w9.heap[M10]?=some (.cells (RowK (qVu s ep)).toArray 40 (0,0)) by rw [XE.out];exact hz9)
  have OY:=Lh (qKW s ep)
  obtain⟨y,hy⟩:∃y,y=qVu s ep:=⟨_,rfl⟩
  rw[←hy]at R10E OY
  have YE:=Lh hy
  obtain⟨sK,hsK⟩:∃sK:BSt,sK={ s with u:=s.u+64 }:=⟨_,rfl⟩
  rw[←hsK]at H9
  have SK:=Lh (show sK.mode=s.mode∧sK.F=s.F∧sK.u=s.u+64∧sK.n=s.n∧sK.m=s.m by rw [hsK];simp)
  have SKE:=Lh hsK
  clear hz9 hg9 hy hsK
  simp only [Act.put,pq1,pq2,pq3]
  go_upto_region 9 with fail
  refine wp_region_list ?_
  simp only [kQf]
  refine qQa (by rfl) (by go_simp;rfl) ?_
  simp only [Act.put,pq1,pq2,pq3]
  refine qQa (by rfl) (qQj 40 (.tmp 10) rfl M10 rfl 40 (RowK y).toArray (0,0) _ R10E.out Tryz.underlying40 rfl (qQO _ OY.out)) ?_
  simp only [Act.put,pq1,pq2,pq3]
  refine qQa (by rfl) (by go_simp;rfl) ?_
  simp only [Act.put,pq1,pq2,pq3]
  have WX:=Lh (show Calls Tryz.prog 27 #[.pointer (some ⟨g,0,none⟩),.agg (RowK y).toArray,.slice A q c] w9 (WrapP w0 g S D b lo y zs sK w9) by
   rw[←Q1.out]
   exact wrap_any w0 g S D b lo sK w9 H9.out (by rw [SK.out.1];exact HMO.out) y OY.out A c zs ((HR.out.keep B2.out).boxF F9.out HA.out) SP.out.1 SP.out.2 HA.out (by rw [SK.out.2.2.1];have:=HU.out;omega) (by rw [SK.out.2.1];exact HF.out) (by rw [SK.out.2.2.2.2];exact HM.out) (by rw [SK.out.2.2.2.1];exact HN.out) (by have:=F9.out.1;have:=s2.out;have:=LM.out;omega) HD.out HW0.out)
  refine qQs (by rfl) (fun K hK=>?_)
  go_simp
  refine WX.out.mono ?_
  clear WX
  rintro e w10 ⟨sZ,r,hwr,hbx,hbf,hr⟩
  have H10:=Lh hbx
  have F10:=Lh (F9.out.trans hbf)
  have WR:=Lh hwr
  have HQ10:=Lh (show ∀k,lo≤k→k≠g∧k≠S∧k≠b by intro k hk;have:=LOW.out;omega)
  have BF9:=Lh hbf
  have R10F:=Lh (qZm R10E.out hbf (HQ10.out _ LOM.out))
  have R6T:=Lh (qZm R6.out F10.out (HQ10.out _ LM.out))
  have R7T:=Lh (qZm R7.out F10.out (HQ10.out _ (by have:=LM.out;omega)))
  have L9:=Lh (show w2.heap.size≤w9.heap.size from F9.out.1)
  clear hbx hbf hwr
  rcases r with _|⟨xs,d⟩
  ·have hr:e=.returned (.tuple #[.agg RingZ,.int .i64 15]):=hr
   subst hr
   refine hK.out _ _ ?_
   clear hK K
   go_upto_region 10 with (refine qQp rfl rfl 35 (.tmp 11) (.tmp 37) rfl RingZ rfl rfl qQ9 rfl qZ2 ?_)
   generalize hM11:Array.size (World.heap w10)=M11
   generalize hw11:World.alloc w10 _=w11
   have B11:=Lh (show Below w10.heap.size w10 w11 by rw [←hw11];exact qQh _ _)
   have R6U:=Lh (qQb B11.out (qQe R6T.out) R6T.out)
   have R7U:=Lh (qQb B11.out (qQe R7T.out) R7T.out)
   clear hM11 hw11
   go_upto_region 11 with fail
   refine wp_region_list ?_
   simp only [kQf]
   refine qQa (by rfl) (by go_simp;rfl) ?_
   simp only [Act.put,pq1,pq2,pq3]
   refine qQa (by rfl) (qVl rfl _) ?_
   simp only [Act.put,pq1,pq2,pq3]
   refine qQa (by rfl) (by go_simp;rfl) ?_
   simp only [Act.put,pq1,pq2,pq3]
   refine qQf rfl rfl 35 (.tmp 6) (.tmp 41) rfl M6 RingZ rfl rfl 35 _ R6U.out qQ9 rfl qZ2 ?_
   intro w5 hz5 hg5 _
   have R75:=Lh (qQd hg5 (fun e=>by have:=Option.some.inj e;omega) R7U.out)
   refine qQf rfl rfl 40 (.tmp 7) (.tmp 42) rfl (M6+1) (RowK kysZ).toArray rfl rfl 40 _ R75.out (qQO _ qZr) rfl (qZO _) ?_
   intro w6 hz6 hg6 _
   have Z5:=Lh (qQd hg6 (fun e=>by have:=Option.some.inj e;omega) hz5)
   have Z6:=Lh hz6
   have BX5:=Lh ((H10.out.keep B11.out).grownT hg5 HD.out HW0.out (fun q' e=>by cases e;exact⟨LM.out,_,_,_,R6U.out,by decide⟩))
   have BX6:=Lh (BX5.out.grownT hg6 HD.out HW0.out (fun q' e=>by cases e;exact⟨by have:=LM.out;omega,_,_,_,R75.out,by decide⟩))
   have BF:=Lh (((qXH B2.out (F10.out.below B11.out)).grown hg5 (fun k e=>by cases e;exact .inr (.inr (.inr (by rw [ME.out];exact kQh _))))).grown hg6 (fun k e=>by cases e;exact .inr (.inr (.inr (by rw [ME.out];omega)))))
   clear hz5 hg5 hz6 hg6
   go_wp2_with fail
   refine qWb M6 (M6+1) 35 40 RingZ (RowK kysZ).toArray _ rfl rfl rfl rfl rfl Z5.out Tryz.underlying35 rfl qQ9 Z6.out Tryz.underlying40 rfl (qQO _ qZr) (.inr ⟨CT.out,sZ,none,?_,BX6.out,BF.out,rfl⟩)
   have h1:=WR.out
   rwa [YE.out,SKE.out]at h1
  ·obtain⟨v,rfl,hrg⟩:=hr
   obtain⟨Av,cv,vs,dv,rfl,hrg1⟩:∃Av cv vs dv,v=.agg #[.slice Av xs.length cv,dv]∧RgB w9.heap.size w10 (.agg #[.slice Av xs.length cv,dv]) xs d:=by
    obtain⟨A1,c1,vs,dv,h1,h2⟩:=hrg
    exact⟨A1,c1,vs,dv,h1,A1,c1,vs,dv,rfl,h2⟩
   obtain⟨rc,hrc⟩:∃rc:Array Value,rc=#[.slice Av xs.length cv,dv]:=⟨_,rfl⟩
   have ONE:=Lh (show rc.all (·.oneCell')=true by
    obtain⟨_,_,_,dv',h1,_,_,_,_,_,⟨_,_,h2,_⟩⟩:=hrg1
    injection h1 with h1
    have h3:dv=dv':=by have:=congrArg (fun a:Array Value=>a[1]!) h1;simpa using this
    rw[hrc,h3,h2]
    simp [Value.oneCell'])
   have SZ:=Lh (show rc.size=2 by rw [hrc];rfl)
   have IR:=Lh (show(Tryz.prog.info? 35).map (·.size)=some rc.size by rw [SZ.out];exact qZi)
   rw[←hrc]at hrg1 ⊢
   have RG:=Lh hrg1
   clear hrg hrg1 hrc
   refine hK.out _ _ ?_
   clear hK K
   go_upto_region 10 with (refine qQp rfl rfl 35 (.tmp 11) (.tmp 37) rfl rc rfl rfl IR.out (by rw [SZ.out];rfl) ONE.out ?_)
   generalize hM11:Array.size (World.heap w10)=M11
   generalize hw11:World.alloc w10 _=w11
   have B11:=Lh (show Below w10.heap.size w10 w11 by rw [←hw11];exact qQh _ _)
   have R11:=Lh (show w11.heap[M11]?=some (.cells rc 35 (0,0)) by rw [←hw11];exact qQk _ _ _ hM11.symm)
   have R6U:=Lh (qQb B11.out (qQe R6T.out) R6T.out)
   have R7U:=Lh (qQb B11.out (qQe R7T.out) R7T.out)
   have RXU:=Lh (qQb B11.out (qQe R10F.out) R10F.out)
   have M11L:=Lh (show w9.heap.size≤M11 by rw [←hM11];exact BF9.out.1)
   clear hM11 hw11
   go_upto_region 12 with fail
   have C0:=Lh (show w11.drew.heap[M11]?=some (.cells rc 35 (0,0))∧w11.drew.heap[M10]?=some (.cells (RowK y).toArray 40 (0,0))from⟨R11.out,RXU.out⟩)
   have R6V:=Lh (show w11.drew.heap[M6]?=some (.cells RingZ 35 (0,0))from R6U.out)
   have R7V:=Lh (show w11.drew.heap[M6+1]?=some (.cells (RowK kysZ).toArray 40 (0,0))from R7U.out)
   have B12:=Lh (show Below w10.heap.size w10 w11.drew from B11.out.drew)
   refine qQu (fun W=>W.heap[M11]?=some (.cells rc 35 (0,0))∧W.heap[M10]?=some (.cells (RowK y).toArray 40 (0,0))) [(true,0),(true,1),(false,2),(false,3),(true,4)] (by kernel_rfl) (by kernel_rfl) (fun _ _ d _ _ h=>by cases d<;>exact h) ?_
   simp only [kQl,kQm,kQd,kQg,kQe,kQo]
   generalize World.drew w11=wd at C0 R6V R7V B12 ⊢
   refine qQc (by rfl) C0.out (fun W hW=>qQj 35 (.tmp 11) rfl M11 rfl 35 rc (0,0) _ hW.1 Tryz.underlying35 rfl IR.out) ?_
   simp only [Act.put,pq1,pq2,pq3]
   refine qQc (by rfl) C0.out (fun W hW=>qQj 40 (.tmp 10) rfl M10 rfl 40 (RowK y).toArray (0,0) _ hW.2 Tryz.underlying40 rfl (qQO _ OY.out)) ?_
   simp only [Act.put,pq1,pq2,pq3]
   have BX0:=Lh (H10.out.keep B12.out)
   have F0:=Lh (qXH B2.out (F10.out.below B12.out))
   have RG0:=Lh (RG.out.keep B12.out)
   have DIS:=Lh (show M6<M10∧M6+1<M10∧M6+1<M11∧M6+1<w9.heap.size by have:=M10L.out;have:=M11L.out;have:=L9.out;have:=s2.out;omega)
   refine qQE (by rfl) (fun K hK=>?_)
   refine qXl 35 (.tmp 6) (.tmp 44) rfl M6 rc rfl rfl _ _ R6V.out IR.out (by rw [SZ.out];rfl) ONE.out ?_
   intro w12 hr hg hs
   have C1:=Lh (show w12.heap[M11]?=some (.cells rc 35 (0,0))∧w12.heap[M10]?=some (.cells (RowK y).toArray 40 (0,0))from⟨qQd hg (fun e=>by have:=Option.some.inj e;have:=DIS.out;omega) C0.out.1,qQd hg (fun e=>by have:=Option.some.inj e;have:=DIS.out;omega) C0.out.2⟩)
   have R7W:=Lh (qQd hg (fun e=>by have:=Option.some.inj e;omega) R7V.out)
   have R6W:=Lh hr
   have BX1:=Lh (BX0.out.grownT hg HD.out HW0.out (fun q' e=>by cases e;exact⟨LM.out,_,_,_,R6V.out,by decide⟩))
   have F1:=Lh (F0.out.grown hg (fun k e=>by cases e;exact .inr (.inr (.inr (by rw [ME.out];exact kQh _)))))
   have RG1:=Lh (RG0.out.grown hg (by have:=DIS.out;omega))
   clear hr hg hs
   refine hK.out _ _ C1.out ?_
   clear hK K
   refine qQE (by rfl) (fun K hK=>?_)
   refine qXl 40 (.tmp 7) (.tmp 45) rfl (M6+1) (RowK y).toArray rfl rfl _ _ R7W.out (qQO _ OY.out) (by rw [qXN _ qZr,qXN _ OY.out]) (qZO _) ?_
   intro w13 hr hg hs
   have C2:=Lh (show w13.heap[M11]?=some (.cells rc 35 (0,0))∧w13.heap[M10]?=some (.cells (RowK y).toArray 40 (0,0))from⟨qQd hg (fun e=>by have:=Option.some.inj e;have:=DIS.out;omega) C1.out.1,qQd hg (fun e=>by have:=Option.some.inj e;have:=DIS.out;omega) C1.out.2⟩)
   have R6Y:=Lh (qQd hg (fun e=>by have:=Option.some.inj e;omega) R6W.out)
   have R7Y:=Lh hr
   have BX2:=Lh (BX1.out.grownT hg HD.out HW0.out (fun q' e=>by cases e;exact⟨by have:=LM.out;omega,_,_,_,R7W.out,by decide⟩))
   have F2:=Lh (F1.out.grown hg (fun k e=>by cases e;exact .inr (.inr (.inr (by rw [ME.out];omega)))))
   have RG2:=Lh ((RG1.out.grown hg (by have:=DIS.out;omega)).low (show w.heap.size≤w9.heap.size by have:=B2.out.size;have:=L9.out;omega))
   clear hr hg hs
   refine hK.out _ _ C2.out ?_
   clear hK K
   refine qQc (by rfl) C2.out (fun W hW=>by go_simp;rfl) ?_
   simp only [Act.put,pq1,pq2,pq3]
   refine qQG ?_
   go_wp2_with fail
   refine qWb M6 (M6+1) 35 40 rc (RowK y).toArray _ rfl rfl rfl rfl rfl R6Y.out Tryz.underlying35 rfl IR.out R7Y.out Tryz.underlying40 rfl (qQO _ OY.out) (.inr ⟨CT.out,sZ,some (xs,d),?_,BX2.out,F2.out,_,by rw [←YE.out];rfl,RG2.out⟩)
   have h1:=WR.out
   rwa [YE.out,SKE.out]at h1
def RingA (base:Nat) (W:World) (rc:Array Value) (ec:Int):Option (List (List UInt8)×List UInt8)→Prop
 | none=>rc=RingZ∧ec=15
 | some (xs,d)=>ec=0∧RgB base W (.agg rc) xs d
def AgainP (w0:World) (g S D b lo:Nat) (y:Kys) (l:List Mem) (s:BSt) (w:World) (e:Ending) (w':World):Prop:=
 (qZd l=false∧e=.returned (.tuple #[.agg RingZ,.int .i64 2])∧Below w.heap.size w w')∨
 (qZd l=true∧∃s' r,qYn y l s s' r∧BoxB w0 g S D b lo s' w'∧BoxF g S b w w'∧
  match r with
  | none=>e=.returned (.tuple #[.agg RingZ,.int .i64 15])
  | some (xs,d)=>∃v,e=.returned (.tuple #[v,.int .i64 0])∧RgB w.heap.size w' v xs d)
theorem again_any (w0:World) (g S D b lo:Nat) (s:BSt) (w:World) (h:BoxB w0 g S D b lo s w) (hmo:s.mode=0∨s.mode=1) (y:Kys) (hy:OkK y) (A:Option Addr) (c:Nat) (zs:List Mem) (R:RdM w A zs) (hc:zs.length≤c) (hz:zs.length≤1000)
  (hA:zs≠[]→∀a,A=some a→a.block≠g∧a.block≠S∧a.block≠b) (hu:s.u+10000≤900000) (hF:s.F.length≤100000) (hm:s.m.length≤5000) (hn:s.n≤50000) (hlo:lo≤w.heap.size) (hD:D<lo) (hw0:w0.heap.size≤lo) :
  Calls Tryz.prog 15 #[.pointer (some ⟨g,0,none⟩),.agg (RowK y).toArray,.slice A zs.length c] w (AgainP w0 g S D b lo y zs s w):=by
 have H:=Lh h
 have HMO:=Lh hmo
 have OY:=Lh hy
 have HR:=Lh R
 have HA:=Lh hA
 have HU:=Lh hu
 have HF:=Lh hF
 have HM:=Lh hm
 have HN:=Lh hn
 have HLO:=Lh hlo
 have HD:=Lh hD
 have HW0:=Lh hw0
 have HZ:=Lh hz
 have HC:=Lh hc
 have LOW:=Lh (show g<lo∧S<lo∧b<lo from⟨h.lg,h.lS,h.map.low⟩)
 obtain⟨q,hq⟩:∃q,q=zs.length:=⟨_,rfl⟩
 obtain⟨cs,hcs⟩:∃cs,cs=(RowK y).toArray:=⟨_,rfl⟩
 rw[←hq,←hcs]
 have Q1:=Lh hq.symm
 have CE:=Lh hcs
 have CL:=Lh (show(Tryz.prog.info? 40).map (·.size)=some cs.size by rw [hcs];exact qQO _ hy)
 clear h hmo hy R hA hu hF hm hn hlo hD hw0 hq hz hc hcs
 go_enter Tryz.func15,Tryz.ntmps15
 go_upto_region 1 with fail
 generalize hM4:Array.size (World.heap w)=M4
 generalize hwa:World.alloc w _=wa
 have sa:wa.heap.size=M4+1:=by rw [←hwa,qQD,hM4]
 generalize hwb:World.alloc wa _=w2
 have B2:=Lh (show Below w.heap.size w w2 by rw [←hwb,←hwa];exact(qQh _ _).alloc (qQh _ _).size _)
 have s2:=Lh (show w2.heap.size=M4+2 by rw [←hwb,qQD,sa])
 have R4:=Lh (show w2.heap[M4]?=some (.cells cs 40 (0,0))from by
  have h1:wa.heap[M4]?=some (.cells cs 40 (0,0)):=by rw [←hwa];exact qQk _ _ _ hM4.symm
  rw[←hwb]
  exact qQb (qQh _ _) (qQe h1) h1)
 have R6:=Lh (show w2.heap[M4+1]?=some (.cells RingZ 35 (0,0)) by rw [←hwb];exact qQk _ _ _ sa.symm)
 have LM:=Lh (show lo≤M4 by rw [←hM4];exact HLO.out)
 have ME:=Lh hM4
 have H2:=Lh (H.out.keep B2.out)
 clear hwa hwb sa hM4
 go_wp2_with fail
 refine(qKt w0 g S D b lo s w2 H2.out).mono ?_
 rintro e w3 ⟨rfl,hb⟩
 have B3:=Lh hb
 clear hb
 go_wp2_with fail
 have CK:=Lh (show Calls Tryz.prog 10 #[.slice A q c] w3 fun e w'=>e=.returned (.int .i64 (chk zs))∧Below w3.heap.size w3 w' by rw [←Q1.out];exact qVz w3 A c zs ((HR.out.keep B2.out).keep B3.out) HC.out HZ.out)
 refine CK.out.mono ?_
 clear CK
 rintro e w4 ⟨rfl,hb⟩
 have B4:=Lh (show Below w2.heap.size w2 w4 from B3.out.trans (hb.mono B3.out.size))
 clear hb
 have H4:=Lh (H2.out.keep B4.out)
 have R44:=Lh (qQb B4.out (qQe R4.out) R4.out)
 have R64:=Lh (qQb B4.out (qQe R6.out) R6.out)
 rcases hck:qZd zs with _|_
 ·have CF:=Lh hck
  rw[show chk zs=2 by rw [chk,hck];rfl]
  clear hck
  go_upto_region 5 with fail
  refine wp_region_list ?_
  simp only [kQf]
  refine qQa (by rfl) (by go_simp;rfl) ?_
  simp only [Act.put,pq1,pq2,pq3]
  refine qQa (by rfl) (by go_simp;rfl) ?_
  simp only [Act.put,pq1,pq2,pq3]
  refine qQf rfl rfl 35 (.tmp 6) (.tmp 16) rfl (M4+1) RingZ rfl rfl 35 _ R64.out qQ9 rfl qZ2 ?_
  intro w5 hz5 hg5 _
  have Z5:=Lh hz5
  have BF:=Lh (show Below w.heap.size w w5 from qQo (B2.out.trans (B4.out.mono B2.out.size)) hg5 (by rw [ME.out];omega))
  clear hz5 hg5
  go_wp2_with fail
  exact qZP (M4+1) 35 RingZ _ rfl rfl rfl rfl Z5.out Tryz.underlying35 rfl qQ9 (.inl ⟨CF.out,rfl,BF.out⟩)
 ·have CT:=Lh hck
  have HA:=Lh (HA.out (fun h0=>by have h1:=CT.out;rw [h0]at h1;simp [qZd]at h1))
  rw[show chk zs=0 by rw [chk,hck];rfl]
  clear hck
  have SP:=Lh (qZN CT.out)
  go_upto_region 6 with fail
  refine wp_region_list ?_
  simp only [kQf]
  refine qQa (by rfl) (by go_simp;rfl) ?_
  simp only [Act.put,pq1,pq2,pq3]
  refine qQa (by rfl) (qQj 40 (.tmp 4) rfl M4 rfl 40 cs (0,0) _ R44.out Tryz.underlying40 rfl CL.out) ?_
  simp only [Act.put,pq1,pq2,pq3]
  refine qQa (by rfl) (by go_simp;rfl) ?_
  simp only [Act.put,pq1,pq2,pq3]
  have F4:=Lh (show BoxF g S b w2 w4 from(BoxF.refl g S b w2).below B4.out)
  have WX:=Lh (show Calls Tryz.prog 27 #[.pointer (some ⟨g,0,none⟩),.agg cs,.slice A q c] w4 (WrapP w0 g S D b lo y zs s w4) by
   rw[←Q1.out,CE.out]
   exact wrap_any w0 g S D b lo s w4 H4.out HMO.out y OY.out A c zs ((HR.out.keep B2.out).keep B4.out) SP.out.1 SP.out.2 HA.out HU.out HF.out HM.out HN.out (by have:=F4.out.1;have:=s2.out;have:=LM.out;omega) HD.out HW0.out)
  refine qQs (by rfl) (fun K hK=>?_)
  go_simp
  refine WX.out.mono ?_
  clear WX
  rintro e w10 ⟨sZ,r,hwr,hbx,hbf,hr⟩
  have H10:=Lh hbx
  have BF4:=Lh hbf
  have F10:=Lh (F4.out.trans hbf)
  have WR:=Lh hwr
  have R6T:=Lh (qZm R6.out F10.out (show M4+1≠g∧M4+1≠S∧M4+1≠b by have:=LOW.out;have:=LM.out;omega))
  clear hbx hbf hwr
  obtain⟨rc,ec,he,ONE,SZ,HE⟩:∃(rc:Array Value) (ec:Int),e=.returned (.tuple #[.agg rc,.int .i64 ec])∧Hid (rc.all (·.oneCell')=true)∧Hid (rc.size=2)∧Hid (RingA w4.heap.size w10 rc ec r):=by
   rcases r with _|⟨xs,d⟩
   ·exact⟨RingZ,15,hr,Lh qZ2,Lh rfl,Lh ⟨rfl,rfl⟩⟩
   ·obtain⟨v,he,hrg⟩:=hr
    obtain⟨A1,c1,vs,dv,rfl,h2⟩:=hrg
    refine⟨_,0,he,Lh ?_,Lh rfl,Lh ⟨rfl,A1,c1,vs,dv,rfl,h2⟩⟩
    obtain⟨_,_,_,_,_,_,_,h3,_⟩:=h2
    rw[h3]
    simp [Value.oneCell']
  subst he
  have IR:=Lh (show(Tryz.prog.info? 35).map (·.size)=some rc.size by rw [SZ.out];exact qZi)
  clear hr
  refine hK.out _ _ ?_
  clear hK K
  refine qQa (by rfl) (by go_simp;rfl) ?_
  simp only [Act.put,pq1,pq2,pq3]
  refine qQa (by rfl) (by go_simp;rfl) ?_
  simp only [Act.put,pq1,pq2,pq3]
  refine qQf rfl rfl 35 (.tmp 6) (.tmp 22) rfl (M4+1) rc rfl rfl 35 _ R6T.out IR.out (by rw [SZ.out];rfl) ONE.out ?_
  intro w5 hz5 hg5 _
  have Z5:=Lh hz5
  have BX5:=Lh (H10.out.grownT hg5 HD.out HW0.out (fun q' e=>by cases e;exact⟨by have:=LM.out;omega,_,_,_,R6T.out,by decide⟩))
  have F5:=Lh ((qXH B2.out F10.out).grown hg5 (fun k e=>by cases e;exact .inr (.inr (.inr (by rw [ME.out];omega)))))
  have G5:=Lh hg5
  clear hz5 hg5
  go_wp2_with fail
  refine qZP (M4+1) 35 rc _ rfl rfl rfl rfl Z5.out Tryz.underlying35 rfl IR.out (.inr ⟨CT.out,sZ,r,WR.out,BX5.out,F5.out,?_⟩)
  have hE:=HE.out
  rcases r with _|⟨xs,d⟩
  ·obtain⟨rfl,rfl⟩:=hE
   rfl
  ·obtain⟨rfl,hrg⟩:=hE
   exact⟨_,rfl,(hrg.grown G5.out (by have:=F4.out.1;have:=s2.out;omega)).low (by have:=B2.out.size;have:=F4.out.1;omega)⟩
def errV (e:Nat):Value:=if e=0 then .nilIface else .iface 25 (.int .i64 (e:Int))
structure RSt where
 l:List UInt8
 e:Nat
structure Rdr (g D:Nat) (s:RSt) (W:World):Prop where
 has:∃A c,W.heap[g]?=some (.cells #[.slice A s.l.length c,errV s.e] 140 (0,0))∧s.l.length≤c∧RdB W A s.l∧∀a,A=some a→a.block≠g∧a.block<W.heap.size∧a.block=D
 ok:s.e=0∨((s.e=3∨s.e=10)∧s.l=[])
 few:s.l.length≤140737488355328
theorem Rdr.lt {g D:Nat} {s:RSt} {W:World} (h:Rdr g D s W):g<W.heap.size:=by
 obtain⟨A,c,h1,_⟩:=h.has
 exact qQe h1
theorem Rdr.keep {g D:Nat} {s:RSt} {W W':World} (h:Rdr g D s W) (hb:Below W.heap.size W W'):Rdr g D s W':=by
 obtain⟨A,c,h1,h2,h3,h4⟩:=h.has
 exact⟨⟨A,c,qQb hb (qQe h1) h1,h2,h3.keep hb,fun a e=>⟨(h4 a e).1,kQb (h4 a e).2.1 hb.size,(h4 a e).2.2⟩⟩,h.ok,h.few⟩
theorem Rdr.far {g D:Nat} {s:RSt} {W W':World} {r:Option Nat} (h:Rdr g D s W) (hg:W.grownBy W' r) (hr:∀k,r=some k→k≠g∧k≠D):Rdr g D s W':=by
 obtain⟨A,c,h1,h2,h3,h4⟩:=h.has
 refine⟨⟨A,c,qQd hg (fun e=>(hr g e.symm).1 rfl) h1,h2,h3.grown hg (fun k e a ea=>?_),fun a e=>⟨(h4 a e).1,kQb (h4 a e).2.1 hg.size,(h4 a e).2.2⟩⟩,h.ok,h.few⟩
 have h5:=(h4 a ea).2.2
 have h6:=(hr k e).2
 omega
theorem qYR {s:RSt} (h:s.e=0∨((s.e=3∨s.e=10)∧s.l=[])):(s.e=0∧errV s.e=.nilIface)∨(s.e=3∧s.l=[]∧errV s.e=.iface 25 (.int .i64 3))∨(s.e=10∧s.l=[]∧errV s.e=.iface 25 (.int .i64 10)):=by
 rcases h with h|⟨h|h,h2⟩
 ·exact .inl ⟨h,by simp [errV,h]⟩
 ·exact .inr (.inl ⟨h,h2,by simp [errV,h]⟩)
 ·exact .inr (.inr ⟨h,h2,by simp [errV,h]⟩)
theorem qVQ (g D:Nat) (s:RSt) (w:World) (h:Rdr g D s w) :
  Calls Tryz.prog 64 #[.pointer (some ⟨g,0,none⟩)] w fun e w'=>e=.returned (.bool (decide (s.e=0)))∧w'=w:=by
 obtain⟨A,c,h1,_⟩:=h.has
 have c1:=qQg h1 1 rfl
 clear h1
 have hc:=qYR h.ok
 rcases hc with ⟨he,hv⟩|⟨he,_,hv⟩|⟨he,_,hv⟩
 all_goals
  rw[hv]at c1
  rw[he]
  clear hv
  go_enter Tryz.func64,Tryz.ntmps64
  go_wp2_with fail
  go_ret
  exact⟨rfl,rfl⟩
theorem left_any (g D:Nat) (s:RSt) (w:World) (h:Rdr g D s w) :
  Calls Tryz.prog 82 #[.pointer (some ⟨g,0,none⟩)] w fun e w'=>e=.returned (.int .i64 (s.l.length:Int))∧w'=w:=by
 obtain⟨A,c,h1,_⟩:=h.has
 have c0:=qQg h1 0 rfl
 clear h1
 go_enter Tryz.func82,Tryz.ntmps82
 go_wp2_with fail
 go_ret
 exact⟨rfl,rfl⟩
theorem fail_any (g D:Nat) (s:RSt) (w:World) (h:Rdr g D s w) (k:Nat) (hk:k=3∨k=10) :
  Calls Tryz.prog 83 #[.pointer (some ⟨g,0,none⟩),.int .i64 (k:Int)] w fun e w'=>e=.returned (.tuple #[])∧Rdr g D ⟨[],k⟩ w'∧w.grownBy w' (some g):=by
 obtain⟨A,c,h1,_⟩:=h.has
 obtain⟨v,hv⟩:∃v,v=errV s.e:=⟨_,rfl⟩
 rw[←hv]at h1
 have HK:=Lh hk
 have G:=Lh h1
 have a0:=qQg h1 0 rfl
 have a1:=qQg h1 1 rfl
 have f0:=qQz h1 0
 have f1:=qQz h1 1
 clear h1 hk
 go_enter Tryz.func83,Tryz.ntmps83
 go_wp2_with fail
 go_end0
 have hg1:(w.setCell ⟨g,0,none⟩ (.slice none 0 0)).heap[g]?=some (.cells #[.slice none 0 0,v] 140 (0,0)):=by rw [heap_setCell_same _ _ _ _ _ _ G.out];rfl
 have hg2:((w.setCell ⟨g,0,none⟩ (.slice none 0 0)).setCell ⟨g,1,none⟩ (.iface 25 (.int .i64 (k:Int)))).heap[g]?=some (.cells #[.slice none 0 0,.iface 25 (.int .i64 (k:Int))] 140 (0,0)):=by rw [heap_setCell_same _ _ _ _ _ _ hg1];rfl
 have ek:errV k=.iface 25 (.int .i64 (k:Int)):=by unfold errV;rw [if_neg (by have:=HK.out;omega)]
 refine⟨rfl,⟨⟨none,0,?_,kQh _,RdB.nil _ _,fun a e=>by cases e⟩,.inr ⟨HK.out,rfl⟩,by simp⟩,qQF (qQF (World.grownBy.refl _ _) _ _) _ _⟩
 rw[hg2,ek]
 rfl
def qZD (s:RSt) (n:Int):RSt×List UInt8×Bool:=
 if n<1∨s.e≠0 then(s,[],false)else if (s.l.length:Int)<n then(⟨[],10⟩,[],false)else(⟨s.l.drop n.toNat,0⟩,s.l.take n.toNat,true)
theorem takeS_len (s:RSt) (n:Int):(qZD s n).2.1.length≤s.l.length:=by
 unfold qZD
 split
 ·simp
 ·split
  ·simp
  ·simp only [kQp];omega
theorem qVH (s:RSt) (n:Int) (k:Nat) (h:n≤(k:Int)):(qZD s n).2.1.length≤k:=by
 unfold qZD
 split
 ·simp
 ·split
  ·simp
  ·simp only [kQp];omega
def GotB (g:Nat) (v:Value) (b:List UInt8) (W:World):Prop:=∃A c,v=.slice A b.length c∧b.length≤c∧RdB W A b∧∀a,A=some a→a.block≠g∧a.block<W.heap.size
theorem GotB.nil (g:Nat) (W:World):GotB g (.slice none 0 0) [] W:=⟨none,0,rfl,kQh _,RdB.nil _ _,fun a e=>by cases e⟩
theorem take_any' (g D:Nat) (s:RSt) (n:Int) (w:World) (h:Rdr g D s w) :
  Calls Tryz.prog 63 #[.pointer (some ⟨g,0,none⟩),.int .i64 n] w fun e w'=>(∃v,e=.returned (.tuple #[v,.bool (qZD s n).2.2])∧GotB g v (qZD s n).2.1 w')∧Rdr g D (qZD s n).1 w'∧w.grownBy w' (some g):=by
 have R:=Lh h
 obtain⟨i0,hi,hz0,hz1,hz2⟩:=info_parts (show(Tryz.prog.info? 5).map (fun i=>(i.zero,i.size,i.bytes))=some (some (.int .u8 0),1,1) by kernel_rfl)
 have I0:=Lh hi
 have I2:=Lh hz1
 clear h hi hz0 hz1 hz2
 by_cases h1:n<1
 ·have hD:decide (n<(1:Int))=true:=by simp;omega
  have T:=Lh (show qZD s n=(s,[],false) by unfold qZD;rw [if_pos (.inl h1)])
  rw[T.out]
  clear h1
  go_enter Tryz.func63,Tryz.ntmps63
  go_wp2_with fail
  go_ret2
  exact⟨⟨_,rfl,GotB.nil _ _⟩,R.out,World.grownBy.refl _ _⟩
 ·have hD:decide (n<(1:Int))=false:=by simp;omega
  by_cases he:s.e=0
  ·have E:=Lh he
   by_cases hl:(s.l.length:Int)<n
   ·have hE:decide ((s.l.length:Int)<n)=true:=by simp;omega
    have T:=Lh (show qZD s n=(⟨[],10⟩,[],false) by unfold qZD;rw [if_neg (by omega),if_pos hl])
    rw[T.out]
    clear h1 he hl
    go_enter Tryz.func63,Tryz.ntmps63
    go_wp2_with fail
    refine(qVQ g D s w R.out).mono ?_
    rw[show decide (s.e=0)=true by simp [E.out]]
    rintro e w1 ⟨rfl,hw⟩
    rw[hw]
    clear hw w1
    go_wp2_with fail
    refine(left_any g D s w R.out).mono ?_
    rintro e w1 ⟨rfl,hw⟩
    rw[hw]
    clear hw w1
    go_wp2_with fail
    refine(fail_any g D s w R.out 10 (by omega)).mono ?_
    rintro e w1 ⟨rfl,hr,hg⟩
    have R1:=Lh hr
    have G1:=Lh hg
    clear hr hg
    go_wp2_with fail
    go_ret2
    exact⟨⟨_,rfl,GotB.nil _ _⟩,R1.out,G1.out⟩
   ·have hE:decide ((s.l.length:Int)<n)=false:=by simp;omega
    obtain⟨m,rfl⟩:∃m:Nat,n=(m:Int):=⟨n.toNat,by omega⟩
    have T:=Lh (show qZD s (m:Int)=(⟨s.l.drop m,0⟩,s.l.take m,true) by unfold qZD;rw [if_neg (by omega),if_neg hl,Int.toNat_natCast])
    have M:=Lh (show m≤s.l.length by omega)
    rw[T.out]
    clear h1 he hl
    go_enter Tryz.func63,Tryz.ntmps63
    go_wp2_with fail
    refine(qVQ g D s w R.out).mono ?_
    rw[show decide (s.e=0)=true by simp [E.out]]
    rintro e w1 ⟨rfl,hw⟩
    rw[hw]
    clear hw w1
    go_wp2_with fail
    refine(left_any g D s w R.out).mono ?_
    rintro e w1 ⟨rfl,hw⟩
    rw[hw]
    clear hw w1
    obtain⟨A,c,h1,h2,h3,h4⟩:=R.out.has
    obtain⟨q,hq⟩:∃q,q=s.l.length:=⟨_,rfl⟩
    rw[←hq]at h1 h2 M hE ⊢
    rw[show errV s.e=.nilIface by rw [E.out];rfl]at h1
    have QE:=Lh hq.symm
    have G:=Lh h1
    have CC:=Lh h2
    have RB:=Lh h3
    have NB:=Lh h4
    have a0:=qQg h1 0 rfl
    have f0:=qQz h1 0
    have hE2:decide (q<m)=false:=by simp;have:=M.out;omega
    have hcut:=cut_max (P:=Tryz.prog) 22 5 Tryz.underlying22 I0.out I2.out A q c m (by have:=M.out;omega)
    obtain⟨A2,hcut2,hcutR,hcutB⟩:=qVR (P:=Tryz.prog) 22 5 Tryz.underlying22 I0.out I2.out A q c m M.out
    have HCR:=Lh hcutR
    have HCB:=Lh hcutB
    clear h1 h2 h3 h4 hq hcutR hcutB
    go_wp2_with fail
    go_ret2
    have hg1:(w.setCell ⟨g,0,none⟩ (.slice A2 (q-m) (c-m))).heap[g]?=some (.cells #[.slice A2 (q-m) (c-m),.nilIface] 140 (0,0)):=by rw [heap_setCell_same _ _ _ _ _ _ G.out];rfl
    have hgr:w.grownBy (w.setCell ⟨g,0,none⟩ (.slice A2 (q-m) (c-m))) (some g):=qQF (World.grownBy.refl _ _) _ _
    have off1:∀k,some g=some k→Off A k:=fun k e a ea=>by cases e;exact(NB.out a ea).1
    refine⟨⟨_,rfl,A,m,?_,?_,(RB.out.grown hgr off1).take m,fun a ea=>⟨(NB.out a ea).1,kQb (NB.out a ea).2.1 hgr.size⟩⟩,⟨⟨A2,c-m,?_,?_,?_,fun a ea=>?_⟩,.inl rfl,?_⟩,hgr⟩
    ·show Value.slice A m m=_
     rw[kQp,QE.out,Nat.min_eq_left M.out]
    ·rw [kQp,QE.out];omega
    ·rw [hg1,kQv,QE.out];rfl
    ·rw [kQv,QE.out];have:=CC.out;omega
    ·have:=HCR.out w s.l QE.out CC.out RB.out
     exact this.grown hgr (fun k e a ea=>by
      cases e
      obtain⟨a0,ea0,hb⟩:=HCB.out a ea
      rw[hb]
      exact(NB.out a0 ea0).1)
    ·obtain⟨a0,ea0,hb⟩:=HCB.out a ea
     rw[hb]
     exact⟨(NB.out a0 ea0).1,kQb (NB.out a0 ea0).2.1 hgr.size,(NB.out a0 ea0).2.2⟩
    ·have:=R.out.few
     simp only [kQv]
     omega
  ·have T:=Lh (show qZD s n=(s,[],false) by unfold qZD;rw [if_pos (.inr he)])
   have E:=Lh (show decide (s.e=0)=false by simp [he])
   rw[T.out]
   clear h1 he
   go_enter Tryz.func63,Tryz.ntmps63
   go_wp2_with fail
   refine(qVQ g D s w R.out).mono ?_
   rw[E.out]
   rintro e w1 ⟨rfl,hw⟩
   rw[hw]
   clear hw w1
   go_wp2_with fail
   go_ret2
   exact⟨⟨_,rfl,GotB.nil _ _⟩,R.out,World.grownBy.refl _ _⟩
def qXk (b:List UInt8):Nat:=b.foldl (fun v c=>v*256+c.toNat) 0
theorem beVal_snoc (b:List UInt8) (c:UInt8):qXk (b++[c])=qXk b*256+c.toNat:=by simp [qXk]
theorem qJO (b:List UInt8):qXk b<256 ^ b.length:=by
 have key:∀(b:List UInt8) (v:Nat),b.foldl (fun v c=>v*256+c.toNat) v<(v+1)*256 ^ b.length:=by
  intro b
  induction b with
  | nil=>intro v;simp
  | cons c b ih=>
   intro v
   have h1:=ih (v*256+c.toNat)
   have h2:=c.toNat_lt
   rw[List.foldl_cons,List.length_cons,Nat.pow_succ]
   refine kQb h1 ?_
   rw[Nat.mul_comm (256 ^ b.length) 256,←Nat.mul_assoc]
   exact Nat.mul_le_mul_right _ (by omega)
 have:=key b 0
 simpa [qXk]using this
theorem qYV (b:List UInt8) (j:Nat) (h:j<b.length):qXk (b.take (j+1))=qXk (b.take j)*256+(b.getD j 0).toNat:=by
 rw[List.take_add_one,kQi h]
 have e:b.getD j 0=b[j]:=by simp [kQa,h]
 rw[e,←beVal_snoc]
 rfl
def numS (s:RSt) (n:Int):RSt×Nat:=((qZD s (min n 8)).1,qXk (qZD s (min n 8)).2.1)
theorem shl_or (v:Nat) (x:UInt8) (hv:v<72057594037927936):∃z:Nat,Hid (z=v*256+x.toNat)∧bits .or .u64 ((v:Int)*256) (x.toNat:Int)=(z:Int):=by
 refine⟨_,rfl,?_⟩
 have hx:=x.toNat_lt
 have e:((v:Int)*256)=((v*256:Nat):Int):=by omega
 rw[e,u64_or_nat _ _ (by omega) (by omega)]
 congr 1
 rw[show v*256=v <<< 8 by rw [Nat.shiftLeft_eq],←Nat.shiftLeft_add_eq_or_of_lt (by omega)]
theorem qKZ (g D:Nat) (s:RSt) (n:Int) (hn : -9223372036854775808≤n∧n≤9223372036854775807) (w:World) (h:Rdr g D s w) :
  Calls Tryz.prog 41 #[.pointer (some ⟨g,0,none⟩),.int .i64 n] w fun e w'=>e=.returned (.int .u64 ((numS s n).2:Int))∧Rdr g D (numS s n).1 w'∧w.grownBy w' (some g):=by
 have R:=Lh h
 obtain⟨m,hm⟩:∃m:Int,m=min n 8:=⟨_,rfl⟩
 have e1:(if (8:Int)<n then(8:Int)else n)=m:=by rw [hm];split<;>omega
 have M8:=Lh (show m≤8 by omega)
 have HM:=Lh hm
 clear h hm
 go_enter Tryz.func41,Tryz.ntmps41
 go_wp2_with fail
 refine(take_any' g D s m w R.out).mono ?_
 have B8:=Lh (qVH s m 8 M8.out)
 obtain⟨t,ht⟩:∃t,t=qZD s m:=⟨_,rfl⟩
 rw[←ht]at B8 ⊢
 have NE:=Lh (show numS s n=(t.1,qXk t.2.1) by rw [ht,HM.out];rfl)
 obtain⟨s',b,ok⟩:=t
 simp only
 rintro e w1 ⟨⟨v,rfl,A,c,rfl,hbc,hRb,hbo⟩,hr,hg⟩
 obtain⟨q,hq⟩:∃q,q=b.length:=⟨_,rfl⟩
 have B8:=Lh (show b.length≤8 from B8.out)
 rw[←hq]at B8 ⊢
 have QE:=Lh hq.symm
 have qb:(q:Int)≤8:=by have:=B8.out;omega
 have R1:=Lh hr
 have G1:=Lh hg
 have RB:=Lh hRb
 clear e1 ht hbc hRb hbo hr hg hq
 have SN:=Lh (show(numS s n).1=s'∧(numS s n).2=qXk b from by rw [NE.out];exact⟨rfl,rfl⟩)
 go_wp2_with fail
 go_loopw [7,9,19] (fun u _ i wr=>∃j:Nat,j≤q∧i=.int .i64 (j:Int)∧u=.int .u64 ((qXk (b.take j):Nat):Int)∧wr=w1) (fun _ _ i _=>q-(intOf i).toNat)
 case atStart=>exact⟨0,by omega,rfl,rfl,rfl⟩
 case round=>
  obtain⟨j,hj,rfl,rfl,hwr⟩:=hrel
  rw[hwr]
  clear hwr wr
  have J:=Lh hj
  obtain⟨y,hy⟩:∃y,y=qXk (b.take j):=⟨_,rfl⟩
  rw[←hy]
  have Y:=Lh hy
  by_cases hlt:j<q
  ·have hD:decide ((j:Int)<(q:Int))=true:=by simp;omega
   obtain⟨bb,o,rfl,x,hx,a1⟩:=RB.out.get j (by rw [QE.out];exact hlt)
   have Y56:=Lh (show y<72057594037927936 by
    have h1:=qJO (b.take j)
    have h2:(b.take j).length≤7:=by rw [kQp];have:=B8.out;omega
    have h3:256 ^ (b.take j).length≤256 ^ 7:=Nat.pow_le_pow_right (by omega) h2
    omega)
   obtain⟨z,hz,e2⟩:=shl_or y x Y56.out
   have e3:IntKind.u64.wrap (x.toNat:Int)=(x.toNat:Int):=by have:=x.toNat_lt;rw [IntKind.wrap_u64];omega
   have yb:(y:Int)<72057594037927936:=by have:=Y56.out;omega
   have l1:(j:Int)<(q:Int):=by omega
   clear hy
   go_wp2_with fail
   go_roundw
   case rel=>exact⟨j+1,by omega,by go_num,by rw [hz.out,Y.out,hx.out,qYV b j (by rw [QE.out];exact hlt)],trivial⟩
   case measure=>simp [intOf];omega
  ·have hD:decide ((j:Int)<(q:Int))=false:=by simp;omega
   have JE:=Lh (show y=qXk b by rw [Y.out,kQn (by rw [QE.out];omega)])
   go_wp2_with fail
   go_ret
   rw[SN.out.1,SN.out.2,←JE.out]
   exact⟨rfl,R1.out,G1.out⟩
theorem raw_any (g D:Nat) (s:RSt) (n:Int) (w:World) (h:Rdr g D s w) :
  Calls Tryz.prog 43 #[.pointer (some ⟨g,0,none⟩),.int .i64 n] w fun e w'=>(∃v,e=.returned v∧OwnB w' w.heap.size v (qZD s n).2.1)∧Rdr g D (qZD s n).1 w'∧w.grownBy w' (some g):=by
 have R:=Lh h
 clear h
 go_enter Tryz.func43,Tryz.ntmps43
 go_wp2_with fail
 refine(take_any' g D s n w R.out).mono ?_
 have BL:=Lh (show(qZD s n).2.1.length≤140737488355328 from kQk (takeS_len s n) R.out.few)
 obtain⟨t,ht⟩:∃t,t=qZD s n:=⟨_,rfl⟩
 rw[←ht]at BL ⊢
 have TE:=Lh ht
 obtain⟨s',b,ok⟩:=t
 simp only
 rintro e w1 ⟨⟨v,rfl,A,c,rfl,hbc,hRb,hbo⟩,hr,hg⟩
 have BL:=Lh (show b.length≤140737488355328 from BL.out)
 obtain⟨q,hq⟩:∃q,q=b.length:=⟨_,rfl⟩
 rw[←hq]at BL ⊢
 have QE:=Lh hq.symm
 have R1:=Lh hr
 have G1:=Lh hg
 have RB:=Lh hRb
 clear ht hbc hRb hbo hr hg hq
 go_wp2_with fail
 refine(qVx w1 A q c b QE.out RB.out BL.out).mono ?_
 rintro e w2 ⟨v,rfl,ho,hb⟩
 have O:=Lh (ho.mono G1.out.size)
 have R2:=Lh (R1.out.keep hb)
 have G2:=Lh (World.grownBy.trans G1.out (qQJ hb).mono_none)
 clear ho hb
 go_wp2_with fail
 go_ret
 rw[←TE.out]
 exact⟨⟨_,rfl,O.out⟩,R2.out,G2.out⟩
theorem rnew_any (w:World) (A:Option Addr) (n c:Nat) (l:List UInt8) (hn:l.length=n) (hR:RdB w A l) (hb:n≤140737488355328) :
  Calls Tryz.prog 40 #[.slice A n c] w fun e w'=>∃g D,e=.returned (.pointer (some ⟨g,0,none⟩))∧w.heap.size≤g∧w.heap.size≤D∧Rdr g D ⟨l,0⟩ w'∧Below w.heap.size w w':=by
 have HN:=Lh hn
 have HR:=Lh hR
 have HB:=Lh hb
 clear hn hR hb
 go_enter Tryz.func40,Tryz.ntmps40
 go_wp2_with fail
 refine(qVx w A n c l HN.out HR.out HB.out).mono ?_
 rintro e w1 ⟨v,rfl,ho,hb⟩
 obtain⟨A',c',rfl,hr,hl,_,hbk⟩:=ho.read
 obtain⟨q,hq⟩:∃q,q=l.length:=⟨_,rfl⟩
 rw[←hq]at hl ⊢
 have QE:=Lh hq
 have S:=Lh hb
 have RI:=Lh hr
 have LI:=Lh hl
 have BI:=Lh hbk
 clear ho hb hr hl hbk hq
 go_wp2_with fail
 go_ret
 obtain⟨D,hD1,hD2⟩:∃D,w.heap.size≤D∧∀a,A'=some a→a.block=D:=by
  rcases A' with _|a
  ·exact⟨w.heap.size,kQh _,fun a e=>by cases e⟩
  ·exact⟨a.block,(BI.out a rfl).1,fun b e=>by cases e;rfl⟩
 refine⟨_,D,rfl,S.out.size,hD1,⟨⟨A',c',?_,by rw [←QE.out];exact LI.out,RI.out.keep (qQh _ _),fun a ea=>?_⟩,.inl rfl,by rw [HN.out];exact HB.out⟩,S.out.alloc S.out.size _⟩
 ·rw [←QE.out]
  exact qQk _ _ _ rfl
 ·have:=(BI.out a ea).2
  exact⟨by omega,by rw [qQD];omega,hD2 a ea⟩
theorem Rdr.fitL {g D:Nat} {s:RSt} {W:World} (h:Rdr g D s W):∃D',D'<W.heap.size∧Rdr g D' s W:=by
 obtain⟨A,c,h1,h2,h3,h4⟩:=h.has
 rcases A with _|a
 ·exact⟨g,h.lt,⟨⟨none,c,h1,h2,h3,fun a e=>by cases e⟩,h.ok,h.few⟩⟩
 ·exact⟨a.block,(h4 a rfl).2.1,⟨⟨some a,c,h1,h2,h3,fun a' e=>by cases e;exact⟨(h4 a rfl).1,(h4 a rfl).2.1,rfl⟩⟩,h.ok,h.few⟩⟩
def fitK (l:List UInt8):List UInt8:=l++z32.drop l.length
theorem qWg (l:List UInt8) (h:l.length≤32):(fitK l).length=32:=by simp [fitK,z32];omega
theorem qVv {l:List UInt8} (h:l.length=32):fitK l=l:=by rw [fitK,h];exact List.append_nil _
def qKj (l:List UInt8):RSt×Nat:=numS ⟨l,0⟩ 8
def qVt (l:List UInt8):RSt×List UInt8×Bool:=qZD (qKj l).1 32
def qJz (l:List UInt8):RSt×Nat:=numS (qVt l).1 1
def qK6 (l:List UInt8):RSt×List UInt8×Bool:=qZD (qJz l).1 32
def qWf (l:List UInt8):Kys:=⟨UInt64.ofNat (qKj l).2,fitK (qVt l).2.1,fitK (qK6 l).2.1,decide ((qJz l).2=1)⟩
theorem qYM (l:List UInt8):(qVt l).2.1.length≤32:=qVH _ _ 32 (by omega)
theorem qYL (l:List UInt8):(qK6 l).2.1.length≤32:=qVH _ _ 32 (by omega)
theorem qWP (l:List UInt8):OkK (qWf l):=⟨qWg _ (qYM l),qWg _ (qYL l)⟩
def qXJ (l:List UInt8):Bool:=decide (qXh (qWf l) (qWf l).w=l)
theorem numS_lt (s:RSt) (n:Int):(numS s n).2<18446744073709551616:=by
 have h1:=qJO (qZD s (min n 8)).2.1
 have h2:=qVH s (min n 8) 8 (by omega)
 have h3:256 ^ (qZD s (min n 8)).2.1.length≤256 ^ 8:=Nat.pow_le_pow_right (by omega) h2
 have h4:(256:Nat) ^ 8=18446744073709551616:=by decide
 rw[numS]
 show qXk (qZD s (min n 8)).2.1<_
 omega
theorem build_kysE (z:Int) (W:World):(Instr.build 40 #[(0,.int .u64 z)]).run Tryz.prog W=.ok (.agg (.int .u64 z::(B8 z32++(B8 z32++[.bool false]))).toArray) W:=by kernel_rfl
theorem run_numK {o:Oper} {a:Act} (x:Operand) (ho:o.op=.build 40 #[(0,x)]) (e:UInt64) (hx:a.eval x=.int .u64 (e.toNat:Int)) (W:World):(execOp a.eval o).run Tryz.prog W=.ok (.value (.agg (RowK ⟨e,z32,z32,false⟩).toArray)) W:=by
 unfold execOp
 simp only [ho,kQs,kQw,List.map_nil,hx,Sem.run_bind,build_kysE,Result.andThen_ok,Sem.run_pure,RowK]
theorem rowK_b {y:Kys} (h:OkK y) (q:Bool):(RowK y).toArray.setIfInBounds 65 (.bool q)=(RowK { y with w:=q }).toArray:=by
 have l2:((Value.int .u64 (y.e.toNat:Int)::B8 y.k)++B8 y.o).length=65:=by simp [qQt,h.1,h.2]
 have h1:RowK y=((.int .u64 (y.e.toNat:Int)::B8 y.k)++B8 y.o)++[Value.bool y.w]:=by simp [RowK]
 have h2:RowK { y with w:=q }=((.int .u64 (y.e.toNat:Int)::B8 y.k)++B8 y.o)++[Value.bool q]:=by simp [RowK]
 rw[h1,h2,pq1,List.set_append_right _ _ (by rw [l2];exact kQh _),l2]
 rfl
theorem rowK_fitK {y:Kys} (h:OkK y) (hz:y.k=z32) (x:List UInt8) (hx:x.length≤32):((RowK y).toArray.toList.take 1++(B8 x++(RowK y).toArray.toList.drop (1+x.length))).toArray=(RowK { y with k:=fitK x }).toArray:=by
 have h1:RowK y=.int .u64 (y.e.toNat:Int)::(B8 z32++(B8 y.o++[.bool y.w])):=by rw [RowK,hz]
 show((RowK y).take 1++(B8 x++(RowK y).drop (1+x.length))).toArray=_
 rw[h1,Nat.add_comm 1,List.drop_succ_cons,List.drop_append_of_le_length (by simp [qQt,z32];omega)]
 simp [RowK,fitK,B8,List.map_drop]
theorem rowK_fitO {y:Kys} (h:OkK y) (hz:y.o=z32) (x:List UInt8) (hx:x.length≤32):((RowK y).toArray.toList.take 33++(B8 x++(RowK y).toArray.toList.drop (33+x.length))).toArray=(RowK { y with o:=fitK x }).toArray:=by
 have h1:RowK y=(.int .u64 (y.e.toNat:Int)::B8 y.k)++(B8 z32++[.bool y.w]):=by rw [RowK,hz];rfl
 have l1:(Value.int .u64 (y.e.toNat:Int)::B8 y.k).length=33:=by simp [qQt,h.1]
 show((RowK y).take 33++(B8 x++(RowK y).drop (33+x.length))).toArray=_
 have h3:((Value.int .u64 (y.e.toNat:Int)::B8 y.k)++(B8 z32++[Value.bool y.w])).drop (33+x.length)=(B8 z32++[Value.bool y.w]).drop x.length:=by
  rw[List.drop_append,List.drop_eq_nil_of_le (by rw [l1];omega),List.nil_append,l1,Nat.add_sub_cancel_left]
 rw[h1,List.take_left' l1,h3,List.drop_append_of_le_length (by simp [qQt,z32];omega)]
 simp [RowK,fitK,B8,List.map_drop]
theorem beq_any (w:World) (A A':Option Addr) (n n' c c':Nat) (l l':List UInt8) (hn:l.length=n) (hn':l'.length=n') (hR:RdB w A l) (hR':RdB w A' l') :
  Calls Tryz.prog 44 #[.slice A n c,.slice A' n' c'] w fun e w'=>e=.returned (.bool (decide (l=l')))∧w'=w:=by
 have H1:=Lh hn
 have H2:=Lh hn'
 have R1:=Lh hR
 have R2:=Lh hR'
 clear hn hn' hR hR'
 go_enter Tryz.func44,Tryz.ntmps44
 go_upto_region 1 with fail
 refine wp_region_list ?_
 simp only [kQf]
 refine qQa (by rfl) (by go_simp;rfl) ?_
 simp only [Act.put,pq1,pq2,pq3]
 refine qQa (by rfl) (qZo 22 9 (.tmp 5) rfl Tryz.underlying22 Tryz.underlying5 Tryz.underlying9 R1.out n c H1.out rfl) ?_
 simp only [Act.put,pq1,pq2,pq3]
 refine qQa (by rfl) (by go_simp;rfl) ?_
 simp only [Act.put,pq1,pq2,pq3]
 refine qQa (by rfl) (qZo 22 9 (.tmp 7) rfl Tryz.underlying22 Tryz.underlying5 Tryz.underlying9 R2.out n' c' H2.out rfl) ?_
 simp only [Act.put,pq1,pq2,pq3]
 refine qQa (by rfl) (qXC 9 _ (.tmp 6) (.tmp 8) rfl l l' rfl rfl _) ?_
 simp only [Act.put,pq1,pq2,pq3]
 go_wp2_with fail
 go_ret
 exact⟨rfl,rfl⟩
theorem learn_any (w:World) (A:Option Addr) (n c:Nat) (l:List UInt8) (hn:l.length=n) (hR:RdB w A l) (hb:n≤140737488355328) :
  Calls Tryz.prog 37 #[.slice A n c] w fun e w'=>e=.returned (.tuple #[.agg (RowK (qWf l)).toArray,.bool (qXJ l)])∧Below w.heap.size w w':=by
 have TB:=Lh (show qXA Tryz.prog from⟨Tryz.underlying22,by kernel_rfl⟩)
 have ZK:=Lh zeroK
 have HN:=Lh hn
 have HR:=Lh hR
 have HB:=Lh hb
 obtain⟨y,hy⟩:∃y,y=qWf l:=⟨_,rfl⟩
 obtain⟨r,hr⟩:∃r,r=qXJ l:=⟨_,rfl⟩
 rw[←hy,←hr]
 have YE:=Lh hy
 have RE:=Lh hr
 clear hn hR hb hy hr
 go_enter Tryz.func37,Tryz.ntmps37
 go_upto_region 1 with fail
 rw[←ZK.out]
 generalize hM2:Array.size (World.heap w)=M2
 generalize hw1:World.alloc w _=w1
 have B1:=Lh (show Below w.heap.size w w1 by rw [←hw1];exact qQh _ _)
 have R2:=Lh (show w1.heap[M2]?=some (.cells (RowK kysZ).toArray 40 (0,0)) by rw [←hw1];exact qQk _ _ _ hM2.symm)
 have ME:=Lh hM2
 clear hw1 hM2
 go_wp2_with fail
 refine(rnew_any w1 A n c l HN.out (HR.out.keep B1.out) HB.out).mono ?_
 rintro e w2 ⟨g,D0,rfl,hg,_,hrd,hb2⟩
 obtain⟨D,hD,hrd⟩:=hrd.fitL
 have RD:=Lh hrd
 have BW:=Lh (show Below w.heap.size w w2 from B1.out.trans (hb2.mono B1.out.size))
 have R2B:=Lh (qQb hb2 (qQe R2.out) R2.out)
 have DL:=Lh hD
 have GL:=Lh (show M2<g∧w.heap.size≤g by have:=qQe R2.out;have:=B1.out.size;omega)
 clear hg hrd hb2 hD
 go_wp2_with fail
 refine(qKZ g D ⟨l,0⟩ 8 (by omega) w2 RD.out).mono ?_
 rintro e w3 ⟨rfl,hrd,hg3⟩
 obtain⟨e1,he1⟩:∃e1:UInt64,e1=UInt64.ofNat (qKj l).2:=⟨_,rfl⟩
 have EV:((numS ⟨l,0⟩ 8).2:Int)=((e1.toNat:Nat):Int):=by
  rw[he1,UInt64.toNat_ofNat',Nat.mod_eq_of_lt (by have:=numS_lt ⟨l,0⟩ 8;exact this)]
  rfl
 rw[EV]
 have E1:=Lh he1
 have RD3:=Lh (show Rdr g D (qKj l).1 w3 from hrd)
 have BW3:=Lh (qQo BW.out hg3 GL.out.2)
 have R2C:=Lh (qQd hg3 (fun e=>by have:=Option.some.inj e;have:=GL.out.1;omega) R2B.out)
 have S3:=Lh (show w2.heap.size≤w3.heap.size from hg3.size)
 clear hrd hg3 he1 EV
 go_upto_region 3 with (first|(refine qQa rfl (run_numK (.tmp 9) rfl e1 rfl _) ?_)|(refine qQp rfl rfl 40 (.tmp 5) (.tmp 10) rfl (RowK ⟨e1,z32,z32,false⟩).toArray rfl rfl (qQO _ ⟨rfl,rfl⟩) (by rw [←ZK.out,qXN _ qZr,qXN _ ⟨rfl,rfl⟩]) (qZO _) ?_))
 generalize hM5:Array.size (World.heap w3)=M5
 generalize hw4:World.alloc w3 _=w4
 have B4:=Lh (show Below w3.heap.size w3 w4.drew by rw [←hw4];exact(qQh _ _).drew)
 have R5:=Lh (show w4.drew.heap[M5]?=some (.cells (RowK ⟨e1,z32,z32,false⟩).toArray 40 (0,0)) by rw [←hw4];exact qQk _ _ _ hM5.symm)
 have M5L:=Lh (show g<M5∧D<M5∧M2<M5∧w.heap.size≤M5 by have:=RD3.out.lt;have:=DL.out;have:=S3.out;have:=GL.out;omega)
 have RD4:=Lh (RD3.out.keep B4.out)
 have BW4:=Lh (BW3.out.trans (B4.out.mono BW3.out.size))
 have R2D:=Lh (qQb B4.out (qQe R2C.out) R2C.out)
 clear hM5 hw4 B4
 refine qQu (fun _=>True) [(true,0),(true,1),(true,2),(false,3),(false,4)] (by kernel_rfl) (by kernel_rfl) (fun _ _ d _ _ h=>by cases d<;>exact h) ?_
 simp only [kQl,kQm,kQd,kQg,kQe,kQo]
 generalize World.drew w4=wd at R5 RD4 BW4 R2D ⊢
 refine qQc (by rfl) (trivial) (fun W hW=>by go_simp;rfl) ?_
 simp only [Act.put,pq1,pq2,pq3]
 refine qQc (by rfl) (trivial) (fun W hW=>qZA 38 (.tmp 11) rfl 32 5 Tryz.underlying38 rfl M5 1 rfl W) ?_
 simp only [Act.put,pq1,pq2,pq3]
 refine qQc (by rfl) (trivial) (fun W hW=>by go_simp;rfl) ?_
 simp only [Act.put,pq1,pq2,pq3]
 refine qQE (by rfl) (fun K hK=>?_)
 go_simp
 refine(raw_any g D (qKj l).1 32 wd RD4.out).mono ?_
 rintro e w5 ⟨⟨v5,rfl,ho⟩,hrd,hg5⟩
 obtain⟨x2,hx2⟩:∃x,x=(qVt l).2.1:=⟨_,rfl⟩
 have X2:=Lh hx2
 have X2L:=Lh (show x2.length≤32 by rw [hx2];exact qYM l)
 have ho:OwnB w5 wd.heap.size v5 x2:=by rw [hx2];exact ho
 have RD5:=Lh (show Rdr g D (qVt l).1 w5 from hrd)
 have BW5:=Lh (qQo BW4.out hg5 GL.out.2)
 have R25:=Lh (qQd hg5 (fun e=>by have:=Option.some.inj e;have:=GL.out.1;omega) R2D.out)
 have R55:=Lh (qQd hg5 (fun e=>by have:=Option.some.inj e;have:=M5L.out.1;omega) R5.out)
 obtain⟨A5,c5,rfl,hr5,_,_,_⟩:=ho.read
 have RX2:=Lh hr5
 clear ho hrd hg5 hx2 hr5
 refine hK.out _ _ (trivial) ?_
 clear hK K
 refine qQE (by rfl) (fun K hK=>?_)
 refine qJI TB.out (.tmp 12) (.tmp 14) rfl M5 1 32 32 A5 x2.length c5 rfl rfl (RowK ⟨e1,z32,z32,false⟩).toArray 40 R55.out x2 rfl RX2.out x2.length (Nat.min_eq_left X2L.out).symm (by rw [qXN _ ⟨rfl,rfl⟩];have:=X2L.out;omega) ?_
 rw[List.take_length,rowK_fitK ⟨rfl,rfl⟩ rfl x2 X2L.out]
 intro w6 hr6 hg6 _
 have R56:=Lh hr6
 have RD6:=Lh (RD5.out.far hg6 (fun k e=>by cases e;have:=M5L.out;omega))
 have BW6:=Lh (qQo BW5.out hg6 M5L.out.2.2.2)
 have R26:=Lh (qQd hg6 (fun e=>by have:=Option.some.inj e;have:=M5L.out;omega) R25.out)
 clear hr6 hg6
 refine hK.out _ _ (trivial) ?_
 clear hK K
 refine qQG ?_
 go_wp2_with fail
 refine(qKZ g D (qVt l).1 1 (by omega) w6 RD6.out).mono ?_
 rintro e w7 ⟨rfl,hrd,hg7⟩
 obtain⟨n3,hn3⟩:∃n3,n3=(qJz l).2:=⟨_,rfl⟩
 rw[show(numS (qVt l).1 1).2=n3 from hn3.symm]
 have N3:=Lh hn3
 have RD7:=Lh (show Rdr g D (qJz l).1 w7 from hrd)
 have BW7:=Lh (qQo BW6.out hg7 GL.out.2)
 have R27:=Lh (qQd hg7 (fun e=>by have:=Option.some.inj e;have:=GL.out.1;omega) R26.out)
 have R57:=Lh (qQd hg7 (fun e=>by have:=Option.some.inj e;have:=M5L.out.1;omega) R56.out)
 obtain⟨q3,hq3⟩:∃q3:Bool,q3=decide (n3=1):=⟨_,rfl⟩
 have dq:((n3:Int)==1)=q3:=by
  rw[hq3]
  by_cases h:n3=1
  ·subst h;rfl
  ·rw [decide_eq_false h];simp;omega
 have Q3:=Lh hq3
 clear hrd hg7 hn3 hq3
 have OKK:=Lh (show OkK ⟨e1,fitK x2,z32,false⟩from⟨qWg _ X2L.out,rfl⟩)
 go_wp2_with (refine qQs rfl (fun K hK=>?_);refine qY1 (.tmp 19) (.tmp 18) rfl M5 65 q3 rfl rfl R57.out (by rw [qXN _ OKK.out];omega) ?_)
 clear dq
 intro w8 hr8 hg8 _
 have R58:=Lh (show w8.heap[M5]?=some (.cells (RowK ⟨e1,fitK x2,z32,q3⟩).toArray 40 (0,0)) by rw [hr8,←pq1,rowK_b OKK.out])
 have RD8:=Lh (RD7.out.far hg8 (fun k e=>by cases e;have:=M5L.out;omega))
 have BW8:=Lh (qQo BW7.out hg8 M5L.out.2.2.2)
 have R28:=Lh (qQd hg8 (fun e=>by have:=Option.some.inj e;have:=M5L.out;omega) R27.out)
 clear hr8 hg8
 refine hK.out _ _ ?_
 clear hK K
 go_upto_region 5 with fail
 have R58:=Lh (show w8.drew.heap[M5]?=some (.cells (RowK ⟨e1,fitK x2,z32,q3⟩).toArray 40 (0,0))from R58.out)
 have RD8:=Lh (RD8.out.keep (Below.refl _ _).drew)
 have BW8:=Lh BW8.out.drew
 have R28:=Lh (show w8.drew.heap[M2]?=some (.cells (RowK kysZ).toArray 40 (0,0))from R28.out)
 refine qQu (fun _=>True) [(true,0),(true,1),(true,2),(false,3),(false,4)] (by kernel_rfl) (by kernel_rfl) (fun _ _ d _ _ h=>by cases d<;>exact h) ?_
 simp only [kQl,kQm,kQd,kQg,kQe,kQo]
 generalize World.drew w8=wd2 at R58 RD8 BW8 R28 ⊢
 refine qQc (by rfl) (trivial) (fun W hW=>by go_simp;rfl) ?_
 simp only [Act.put,pq1,pq2,pq3]
 refine qQc (by rfl) (trivial) (fun W hW=>qZA 38 (.tmp 20) rfl 32 5 Tryz.underlying38 rfl M5 33 rfl W) ?_
 simp only [Act.put,pq1,pq2,pq3]
 refine qQc (by rfl) (trivial) (fun W hW=>by go_simp;rfl) ?_
 simp only [Act.put,pq1,pq2,pq3]
 refine qQE (by rfl) (fun K hK=>?_)
 go_simp
 refine(raw_any g D (qJz l).1 32 wd2 RD8.out).mono ?_
 rintro e w9 ⟨⟨v9,rfl,ho⟩,hrd,hg9⟩
 obtain⟨x4,hx4⟩:∃x,x=(qK6 l).2.1:=⟨_,rfl⟩
 have X4:=Lh hx4
 have X4L:=Lh (show x4.length≤32 by rw [hx4];exact qYL l)
 have ho:OwnB w9 wd2.heap.size v9 x4:=by rw [hx4];exact ho
 have BW9:=Lh (qQo BW8.out hg9 GL.out.2)
 have R29:=Lh (qQd hg9 (fun e=>by have:=Option.some.inj e;have:=GL.out.1;omega) R28.out)
 have R59:=Lh (qQd hg9 (fun e=>by have:=Option.some.inj e;have:=M5L.out.1;omega) R58.out)
 obtain⟨A9,c9,rfl,hr9,_,_,_⟩:=ho.read
 have RX4:=Lh hr9
 clear ho hrd hg9 hx4 hr9
 refine hK.out _ _ (trivial) ?_
 clear hK K
 have OK4:=Lh (show OkK ⟨e1,fitK x2,z32,q3⟩from⟨qWg _ X2L.out,rfl⟩)
 refine qQE (by rfl) (fun K hK=>?_)
 refine qJI TB.out (.tmp 21) (.tmp 23) rfl M5 33 32 32 A9 x4.length c9 rfl rfl (RowK ⟨e1,fitK x2,z32,q3⟩).toArray 40 R59.out x4 rfl RX4.out x4.length (Nat.min_eq_left X4L.out).symm (by rw [qXN _ OK4.out];have:=X4L.out;omega) ?_
 rw[List.take_length,rowK_fitO OK4.out rfl x4 X4L.out]
 intro w10 hr10 hg10 _
 have YF:=Lh (show y=⟨e1,fitK x2,fitK x4,q3⟩ by rw [YE.out,qWf,←X2.out,←X4.out,E1.out,Q3.out,N3.out])
 have R5A:=Lh (show w10.heap[M5]?=some (.cells (RowK y).toArray 40 (0,0)) by rw [YF.out];exact hr10)
 have BWA:=Lh (qQo BW9.out hg10 M5L.out.2.2.2)
 have R2A:=Lh (qQd hg10 (fun e=>by have:=Option.some.inj e;have:=M5L.out;omega) R29.out)
 have OY:=Lh (show OkK y by rw [YE.out];exact qWP l)
 clear hr10 hg10
 refine hK.out _ _ (trivial) ?_
 clear hK K
 refine qQG ?_
 go_upto_region 6 with fail
 have C0:=Lh (show w10.drew.heap[M5]?=some (.cells (RowK y).toArray 40 (0,0))from R5A.out)
 have R2A:=Lh (show w10.drew.heap[M2]?=some (.cells (RowK kysZ).toArray 40 (0,0))from R2A.out)
 have BWA:=Lh BWA.out.drew
 refine qQu (fun W=>W.heap[M5]?=some (.cells (RowK y).toArray 40 (0,0))) [(true,0),(true,1),(true,2),(true,3),(true,5),(false,4),(false,6),(false,7),(true,8)] (by kernel_rfl) (by kernel_rfl) (fun _ _ d _ _ h=>by cases d<;>exact h) ?_
 simp only [kQl,kQm,kQd,kQg,kQe,kQo]
 generalize World.drew w10=wd3 at C0 R2A BWA ⊢
 refine qQc (by rfl) C0.out (fun W hW=>qQj 40 (.tmp 5) rfl M5 rfl 40 (RowK y).toArray (0,0) _ hW Tryz.underlying40 rfl (qQO _ OY.out)) ?_
 simp only [Act.put,pq1,pq2,pq3]
 refine qQc (by rfl) C0.out (fun W hW=>qQj 40 (.tmp 5) rfl M5 rfl 40 (RowK y).toArray (0,0) _ hW Tryz.underlying40 rfl (qQO _ OY.out)) ?_
 simp only [Act.put,pq1,pq2,pq3]
 refine qQc (by rfl) C0.out (fun W hW=>by go_simp;rfl) ?_
 simp only [Act.put,pq1,pq2,pq3]
 refine qQc (by rfl) C0.out (fun W hW=>qQq 4 (.tmp 27) rfl _ Tryz.underlying4 rfl rfl (qQg hW 65 (rowK_w OY.out))) ?_
 simp only [Act.put,pq1,pq2,pq3]
 refine qQc (by rfl) C0.out (fun W hW=>by go_simp;rfl) ?_
 simp only [Act.put,pq1,pq2,pq3]
 refine qQE (by rfl) (fun K hK=>?_)
 go_simp
 refine(text_any wd3 y OY.out y.w).mono ?_
 rintro e w11 ⟨v11,rfl,ho,hb⟩
 obtain⟨A11,c11,rfl,hr11,_,_,_⟩:=ho.read
 have RT:=Lh hr11
 have C1:=Lh (qQb hb (qQe C0.out) C0.out)
 have R2E:=Lh (qQb hb (qQe R2A.out) R2A.out)
 have BWE:=Lh (BWA.out.trans (hb.mono BWA.out.size))
 clear ho hr11 hb
 refine hK.out _ _ C1.out ?_
 clear hK K
 refine qQE (by rfl) (fun K hK=>?_)
 go_simp
 refine(beq_any w11 A11 A _ n c11 c (qXh y y.w) l rfl HN.out RT.out (HR.out.keep BWE.out)).mono ?_
 rw[show decide (qXh y y.w=l)=r by rw [RE.out,qXJ,YE.out]]
 rintro e wx ⟨rfl,hw⟩
 rw[hw]
 clear hw wx
 refine hK.out _ _ C1.out ?_
 clear hK K
 refine qQE (by rfl) (fun K hK=>?_)
 refine qXl 40 (.tmp 2) (.tmp 25) rfl M2 (RowK y).toArray rfl rfl _ _ R2E.out (qQO _ OY.out) (by rw [qXN _ qZr,qXN _ OY.out]) (qZO _) ?_
 intro w12 hr12 hg12 _
 have Z12:=Lh hr12
 have C2:=Lh (qQd hg12 (fun e=>by have:=Option.some.inj e;have:=M5L.out;omega) C1.out)
 have BF:=Lh (qQo BWE.out hg12 (by rw [ME.out];exact kQh _))
 clear hr12 hg12
 refine hK.out _ _ C2.out ?_
 clear hK K
 refine qQc (by rfl) C2.out (fun W hW=>by go_simp;rfl) ?_
 simp only [Act.put,pq1,pq2,pq3]
 refine qQG ?_
 go_wp2_with fail
 exact qZP M2 40 (RowK y).toArray _ rfl rfl rfl rfl Z12.out Tryz.underlying40 rfl (qQO _ OY.out) ⟨rfl,BF.out⟩
def qZn (s:BSt) (k:List UInt8):List (List UInt8)→Kys×Int
 | []=>(kysZ,13)
 | x::xs=>match qXn s k qZF x with
  | none=>qZn s k xs
  | some t=>if qXJ t then(qWf t,0)else qZn s k xs
theorem qWm {s:BSt} {k x:List UInt8} {xs:List (List UInt8)} {j:Nat} (h:xs[j]?=some x):qZn s k (xs.drop j)=(match qXn s k qZF x with|none=>qZn s k (xs.drop (j+1))|some t=>if qXJ t then(qWf t,0)else qZn s k (xs.drop (j+1))):=by
 obtain⟨hj,he⟩:=List.getElem?_eq_some_iff.1 h
 rw[List.drop_eq_getElem_cons hj,he]
 rfl
theorem qYF (s:BSt) (k:List UInt8) (xs:List (List UInt8)):OkK (qZn s k xs).1:=by
 induction xs with
 | nil=>exact qZr
 | cons x xs ih=>
  rw[qZn]
  split
  ·exact ih
  ·split
   ·exact qWP _
   ·exact ih
theorem qKV {s:BSt} {k b x t:List UInt8} (h:qXn s k b x=some t) (hx:x.length≤70000) (ht:∀p∈s.m,s.mode=1→p.2.text.length≤100000) (hmo:s.mode=0∨s.mode=1):t.length≤100000:=by
 rcases hmo with h0|h1
 ·rw [qXn,if_pos h0]at h
  split at h
  ·cases h
  ·rw [qWO]at h
   split at h
   ·cases h
   ·split at h
    ·injection h with h
     rw[←h,qQX,kQp,kQv]
     omega
    ·cases h
 ·rw [qXn,if_neg (by omega)]at h
  cases hl:qXV s.m x with
  | none=>rw [hl]at h;cases h
  | some e=>
   rw[hl]at h
   simp only at h
   split at h
   ·injection h with h
    simp only [qXV,Option.map_eq_some_iff]at hl
    obtain⟨p,hp,he⟩:=hl
    rw[←h,←he]
    exact ht p (List.mem_of_find?_eq_some hp) h1
   ·cases h
theorem qJU (w0:World) (g S D b lo:Nat) (s:BSt) (w:World) (h:BoxB w0 g S D b lo s w) (hmo:s.mode=0∨s.mode=1) (v:Value) (xs:List (List UInt8)) (d:List UInt8) (base:Nat) (hv:RgB base w v xs d) (hxs:∀x∈xs,x.length≤70000) (hl:xs.length≤1000)
  (k:List UInt8) (hk:k.length=32) (ht:∀p∈s.m,s.mode=1→p.2.text.length≤100000) :
  Calls Tryz.prog 17 #[.pointer (some ⟨g,0,none⟩),v,.agg (W8 k)] w fun e w'=>e=.returned (.tuple #[.agg (RowK (qZn s k xs).1).toArray,.int .i64 (qZn s k xs).2])∧Below w.heap.size w w':=by
 have ZK:=Lh zeroK
 have H:=Lh h
 have HMO:=Lh hmo
 have HXS:=Lh hxs
 have HK:=Lh hk
 have HT:=Lh ht
 obtain⟨A1,c1,vs,dv,rfl,hc1,hvl,hrv,hA1,hxv,hdv⟩:=hv
 obtain⟨q,hq⟩:∃q,q=xs.length:=⟨_,rfl⟩
 have RV:=Lh hrv
 have XV:=Lh hxv
 have VL:=Lh (show vs.length=q by rw [hvl,hq])
 obtain⟨rc,hrc⟩:∃rc:Array Value,rc=#[.slice A1 xs.length c1,dv]:=⟨_,rfl⟩
 rw[←hrc]
 have IR:=Lh (show(Tryz.prog.info? 35).map (·.size)=some rc.size by rw [hrc];exact qZi)
 have R0:=Lh (show rc[0]?=some (.slice A1 q c1) by rw [hrc,hq];rfl)
 have IK:=Lh (qJE hk)
 obtain⟨r,hr⟩:∃r,r=qZn s k xs:=⟨_,rfl⟩
 rw[←hr]
 have RE:=Lh hr
 have Q1:=Lh hq.symm
 have OKR:=Lh (show OkK r.1 by rw [hr];exact qYF _ _ _)
 have QB:=Lh (show q≤1000 by omega)
 have b0:(q:Int)≤1000:=by omega
 clear h hmo hxs hk ht hc1 hvl hrv hA1 hxv hdv hrc hr hq hl
 go_enter Tryz.func17,Tryz.ntmps17
 go_upto_region 1 with fail
 rw[←ZK.out]
 generalize hM4:Array.size (World.heap w)=M4
 generalize hwa:World.alloc w _=wa
 have sa:wa.heap.size=M4+1:=by rw [←hwa,qQD,hM4]
 have ra:wa.heap[M4]?=some (.cells rc 35 (0,0)):=by rw [←hwa];exact qQk _ _ _ hM4.symm
 generalize hwb:World.alloc wa _=wb
 have sb:wb.heap.size=M4+2:=by rw [←hwb,qQD,sa]
 have rb:wb.heap[M4+1]?=some (.cells (W8 k) 38 (0,0)):=by rw [←hwb];exact qQk _ _ _ sa.symm
 have ba:Below wa.heap.size wa wb:=by rw [←hwb];exact qQh _ _
 generalize hwc:World.alloc wb _=w3
 have bb:Below wb.heap.size wb w3:=by rw [←hwc];exact qQh _ _
 have R6:=Lh (show w3.heap[M4+1+1]?=some (.cells (RowK kysZ).toArray 40 (0,0)) by rw [←hwc];exact qQk _ _ _ sb.symm)
 have R5:=Lh (qQb bb (qQe rb) rb)
 have R4:=Lh (qQb bb (qQe (qQb ba (qQe ra) ra)) (qQb ba (qQe ra) ra))
 have B3:=Lh (show Below w.heap.size w w3 from by
  have h1:Below w.heap.size w wa:=by rw [←hwa];exact qQh _ _
  exact(h1.trans (ba.mono h1.size)).trans (bb.mono (h1.trans (ba.mono h1.size)).size))
 have ME:=Lh hM4
 have H3:=Lh (H.out.keep B3.out)
 clear hwa sa ra hwb sb rb ba hwc bb hM4
 go_wp2_with fail
 refine(qKt w0 g S D b lo s w3 H3.out).mono ?_
 rintro e w4 ⟨rfl,hb⟩
 have B4:=Lh hb
 clear hb
 have R44:=Lh (qQb B4.out (qQe R4.out) R4.out)
 go_upto_region 3 with fail
 refine wp_region_list ?_
 simp only [kQf]
 refine qQa (by rfl) (by go_simp;rfl) ?_
 simp only [Act.put,pq1,pq2,pq3]
 refine qQa (by rfl) (qQq 33 (.tmp 17) rfl _ Tryz.underlying33 rfl rfl (qQg R44.out 0 R0.out)) ?_
 simp only [Act.put,pq1,pq2,pq3]
 refine qQa (by rfl) (by go_simp;rfl) ?_
 simp only [Act.put,pq1,pq2,pq3]
 refine qQa (by rfl) (by go_simp;rfl) ?_
 simp only [Act.put,pq1,pq2,pq3]
 go_wp2_with fail
 go_loopw [20] (fun i wr=>∃j:Nat,j≤q∧i=.int .i64 (j:Int)∧r=qZn s k (xs.drop j)∧Below w3.heap.size w3 wr) (fun i _=>q-(intOf i).toNat)
 case atStart=>exact⟨0,Nat.zero_le _,rfl,RE.out,B4.out⟩
 case round=>
  obtain⟨j,hj,rfl,hre,hb⟩:=hrel
  have J:=Lh hj
  have RJ:=Lh hre
  have BW:=Lh hb
  clear hj hre hb B4 R44
  obtain⟨wp,rfl⟩:∃wp:World,wp=wr:=⟨_,rfl⟩
  have BP:=Lh (show Below w.heap.size w wp from B3.out.trans (BW.out.mono B3.out.size))
  have R6P:=Lh (qQb BW.out (qQe R6.out) R6.out)
  by_cases hlt:j<q
  ·have hD:decide ((j:Int)<(q:Int))=true:=by simp;omega
   obtain⟨x,hx⟩:∃x,xs[j]?=some x:=⟨_,kQi (by rw [Q1.out];exact hlt)⟩
   obtain⟨u,hu,hsl⟩:=XV.out j x hx
   obtain⟨Ax,cx,rfl,hcx,hrx,_⟩:=hsl
   obtain⟨b1,o1,hA1,hcell⟩:=RV.out j _ hu
   obtain⟨m,hm⟩:∃m,m=x.length:=⟨_,rfl⟩
   rw[←hm]at hcell hcx
   have XM:=Lh (kQu hx)
   have UD:=Lh (qWm (s:=s) (k:=k) hx)
   have CX:=Lh (qJM hcell (BP.out.block b1 (cell_lt hcell)))
   have RX:=Lh (hrx.keep BP.out)
   have XC:=Lh hcx
   have XL:=Lh hm.symm
   have XB:=Lh (show m≤70000 by rw [hm];exact HXS.out x XM.out)
   have AE:=Lh hA1
   have JQ:=Lh hlt
   have jb:(j:Int)≤999:=by have:=QB.out;omega
   have R5P:=Lh (qQb BW.out (qQe R5.out) R5.out)
   clear hx hu hcx hrx hA1 hcell hm hlt
   go_upto_region 5 with fail
   refine wp_region_list ?_
   simp only [kQf]
   refine qQa (by rfl) (qQr 33 (.tmp 18) (.tmp 20) rfl 22 Tryz.underlying33 1 (by kernel_rfl) b1 o1 q c1 j JQ.out .i64 _ rfl (by rw [←AE.out];rfl) rfl _) ?_
   simp only [Act.put,pq1,pq2,pq3]
   refine qQa (by rfl) (qQq 22 (.tmp 22) rfl _ Tryz.underlying22 rfl rfl (by rw [Nat.mul_one];exact CX.out)) ?_
   simp only [Act.put,pq1,pq2,pq3]
   go_upto_region 6 with fail
   refine wp_region_list ?_
   simp only [kQf]
   refine qQa (by rfl) (by go_simp;rfl) ?_
   simp only [Act.put,pq1,pq2,pq3]
   refine qQa (by rfl) (qQj 38 (.tmp 5) rfl (M4+1) rfl 38 (W8 k) (0,0) _ R5P.out Tryz.underlying38 rfl IK.out) ?_
   simp only [Act.put,pq1,pq2,pq3]
   refine qQs (by rfl) (fun K hK=>?_)
   refine wp_wrap rfl ?_
   generalize hB:Array.size (World.heap wp)=N4
   generalize hw:World.alloc wp _=w9
   have B9:=Lh (show Below wp.heap.size wp w9 by rw [←hw];exact qQh _ _)
   have R9:=Lh (show w9.heap[N4]?=some (.cells (W8 qZF) 5 (0,0)) by rw [←hw];exact qQk _ _ _ hB.symm)
   have N4E:=Lh hB
   clear hB hw
   refine hK.out _ _ ?_
   clear hK K
   simp only [Act.put,pq1,pq2,pq3]
   refine qQs (by rfl) (fun K hK=>?_)
   refine wp_cv (.tmp 27) rfl R9.out rfl ?_
   intro w10 hr10 hg10 _
   have B10:=Lh (show Below wp.heap.size wp w10 from qQo B9.out hg10 (by rw [N4E.out];exact kQh _))
   have R10:=Lh (show RdB w10 (some ⟨N4,0,none⟩) qZF from RdB.row hr10)
   clear hr10 hg10 R9 B9
   refine hK.out _ _ ?_
   clear hK K
   simp only [Act.put,pq1,pq2,pq3]
   refine qQa (by rfl) (by go_simp;rfl) ?_
   simp only [Act.put,pq1,pq2,pq3]
   refine qQs (by rfl) (fun K hK=>?_)
   go_simp
   refine(qYT w0 g S D b lo s w10 ((H.out.keep BP.out).keep B10.out) HMO.out k qZF x HK.out (some ⟨N4,0,none⟩) 4 4 rfl R10.out (by omega) Ax m cx XL.out XC.out (RX.out.keep B10.out) XB.out HT.out).mono ?_
   rcases hop:qXn s k qZF x with _|t
   ·have RN:=Lh (show r=qZn s k (xs.drop (j+1)) by have h1:=UD.out;rw [hop]at h1;rw [RJ.out,h1])
    clear hop
    rintro e w11 hop
    obtain⟨rfl,hb⟩:=OpenP.no hop
    have BN:=Lh (show Below w3.heap.size w3 w11 from BW.out.trans ((B10.out.trans (hb.mono B10.out.size)).mono BW.out.size))
    clear hop hb
    refine hK.out _ _ ?_
    clear hK K
    go_wp2_with fail
    go_roundw
    case rel=>exact⟨j+1,by have:=JQ.out;omega,by go_num,RN.out,BN.out⟩
    case measure=>have:=JQ.out;simp [intOf];omega
   ·have UT:=Lh (show r=if qXJ t then(qWf t,0)else qZn s k (xs.drop (j+1)) by have h1:=UD.out;rw [hop]at h1;rw [RJ.out,h1])
    have TLEN:=Lh (qKV hop (by rw [XL.out];exact XB.out) HT.out HMO.out)
    clear hop
    rintro e w11 hop
    obtain⟨⟨vt,rfl,ho⟩,hb⟩:=OpenP.yes hop
    obtain⟨At,ct,rfl,hrt,_,_,_⟩:=ho.read
    have RT:=Lh hrt
    have BN:=Lh (show Below w3.heap.size w3 w11 from BW.out.trans ((B10.out.trans (hb.mono B10.out.size)).mono BW.out.size))
    obtain⟨nt,hnt⟩:∃nt,nt=t.length:=⟨_,rfl⟩
    rw[←hnt]
    have NT:=Lh hnt.symm
    clear hop ho hb hrt hnt
    refine hK.out _ _ ?_
    clear hK K
    go_upto_region 8 with fail
    refine wp_region_list ?_
    simp only [kQf]
    refine qQa (by rfl) (by go_simp;rfl) ?_
    simp only [Act.put,pq1,pq2,pq3]
    refine qQs (by rfl) (fun K hK=>?_)
    go_simp
    refine(learn_any w11 At nt ct t NT.out RT.out (by have:=TLEN.out;have:=NT.out;omega)).mono ?_
    rintro e w12 ⟨rfl,hb⟩
    have B12:=Lh (show Below w3.heap.size w3 w12 from BN.out.trans (hb.mono BN.out.size))
    obtain⟨y,hy⟩:∃y,y=qWf t:=⟨_,rfl⟩
    obtain⟨lb,hlb⟩:∃lb,lb=qXJ t:=⟨_,rfl⟩
    rw[←hy,←hlb]at UT ⊢
    have OY:=Lh (show OkK y by rw [hy];exact qWP t)
    clear hb hy hlb
    refine hK.out _ _ ?_
    clear hK K
    rcases lb with _|_
    ·have RN:=Lh (show r=qZn s k (xs.drop (j+1)) by rw [UT.out];rfl)
     go_upto_region 9 with (refine qQp rfl rfl 40 (.tmp 12) (.tmp 38) rfl (RowK y).toArray rfl rfl (qQO _ OY.out) (by rw [←ZK.out,qXN _ qZr,qXN _ OY.out]) (qZO _) ?_)
     generalize hw13:World.alloc w12 _=w13
     have BE:=Lh (show Below w3.heap.size w3 w13 by rw [←hw13];exact B12.out.alloc B12.out.size _)
     clear hw13
     go_wp2_with fail
     go_roundw
     case rel=>exact⟨j+1,by have:=JQ.out;omega,by go_num,RN.out,BE.out⟩
     case measure=>have:=JQ.out;simp [intOf];omega
    ·have RN:=Lh (show r=(y,0) by rw [UT.out];rfl)
     go_upto_region 9 with (refine qQp rfl rfl 40 (.tmp 12) (.tmp 38) rfl (RowK y).toArray rfl rfl (qQO _ OY.out) (by rw [←ZK.out,qXN _ qZr,qXN _ OY.out]) (qZO _) ?_)
     generalize hM12:Array.size (World.heap w12)=M12
     generalize hw13:World.alloc w12 _=w13
     have BE:=Lh (show Below w3.heap.size w3 w13 by rw [←hw13];exact B12.out.alloc B12.out.size _)
     have R12:=Lh (show w13.heap[M12]?=some (.cells (RowK y).toArray 40 (0,0)) by rw [←hw13];exact qQk _ _ _ hM12.symm)
     have R6E:=Lh (qQb BE.out (qQe R6.out) R6.out)
     clear hM12 hw13
     go_upto_region 10 with fail
     refine wp_region_list ?_
     simp only [kQf]
     refine qQa (by rfl) (qQj 40 (.tmp 12) rfl M12 rfl 40 (RowK y).toArray (0,0) _ R12.out Tryz.underlying40 rfl (qQO _ OY.out)) ?_
     simp only [Act.put,pq1,pq2,pq3]
     refine qQf rfl rfl 40 (.tmp 6) (.tmp 41) rfl (M4+1+1) (RowK y).toArray rfl rfl 40 _ R6E.out (qQO _ OY.out) (by rw [qXN _ qZr,qXN _ OY.out]) (qZO _) ?_
     intro w14 hr14 hg14 _
     have Z14:=Lh hr14
     have BF:=Lh (qQo (B3.out.trans (BE.out.mono B3.out.size)) hg14 (by rw [ME.out];omega))
     clear hr14 hg14
     go_wp2_with fail
     exact qZP (M4+1+1) 40 (RowK y).toArray _ rfl rfl rfl rfl Z14.out Tryz.underlying40 rfl (qQO _ OY.out) ⟨by rw [RN.out];rfl,BF.out⟩
  ·have hD:decide ((j:Int)<(q:Int))=false:=by simp;omega
   have RN:=Lh (show r=(kysZ,13) by rw [RJ.out,kQt (by rw [Q1.out];omega)];rfl)
   go_upto_region 12 with fail
   refine wp_region_list ?_
   simp only [kQf]
   refine qQa (by rfl) (qVl rfl _) ?_
   simp only [Act.put,pq1,pq2,pq3]
   refine qQf rfl rfl 40 (.tmp 6) (.tmp 43) rfl (M4+1+1) (RowK kysZ).toArray rfl rfl 40 _ R6P.out (qQO _ qZr) rfl (qZO _) ?_
   intro w14 hr14 hg14 _
   have Z14:=Lh hr14
   have BF:=Lh (qQo BP.out hg14 (by rw [ME.out];omega))
   clear hr14 hg14
   go_wp2_with fail
   exact qZP (M4+1+1) 40 (RowK kysZ).toArray _ rfl rfl rfl rfl Z14.out Tryz.underlying40 rfl (qQO _ qZr) ⟨by rw [RN.out];rfl,BF.out⟩
end Go.Proofs.YtlocplkjokoknaaGreat
namespace Go.Proofs.YtlocplkjokoknaaGreat
open Go.RowKit
theorem beVal_foldl (k x:Nat):∀v,(beL k x).foldl (fun v c=>v*256+c.toNat) v=v*2 ^ (8*k)+x % 2 ^ (8*k):=by
 induction k with
 | zero=>intro v;simp [beL,Nat.mod_one]
 | succ k ih=>
  intro v
  rw[beL,List.foldl_cons,ih,show 8*(k+1)=8*k+8 by omega,Nat.pow_add]
  have h1:(UInt8.ofNat (x/2 ^ (8*k))).toNat=(x/2 ^ (8*k)) % 256:=by simp
  rw[h1,Nat.mod_mul]
  generalize 2 ^ (8*k)=p
  generalize x/p % (2 ^ 8)=q
  generalize x % p=r
  have e:(2:Nat) ^ 8=256:=by decide
  rw[e]
  rw[Nat.add_mul,Nat.mul_assoc,Nat.mul_comm 256 p,Nat.mul_comm q p]
  omega
theorem beVal_beL (k x:Nat):qXk (beL k x)=x % 2 ^ (8*k):=by
 have:=beVal_foldl k x 0
 simpa [qXk]using this
theorem qWG (l more:List UInt8) (n:Nat) (h0:0<n) (hn:l.length=n):qZD ⟨l++more,0⟩ (n:Int)=(⟨more,0⟩,l,true):=by
 unfold qZD
 rw[if_neg (by simp;omega),if_neg (by simp;omega)]
 simp [←hn]
theorem numS_beL (x:Nat) (n:Nat) (h0:0<n) (h8:n≤8) (more:List UInt8):numS ⟨beL n x++more,0⟩ (n:Int)=(⟨more,0⟩,x % 2 ^ (8*n)):=by
 unfold numS
 rw[show min (n:Int) 8=(n:Int) by omega,qWG _ _ _ h0 (qZj _ _),beVal_beL]
def seenK (y:Kys) (o:Bool):Kys:=⟨y.e,y.k,if o then y.o else z32,o⟩
theorem qK5 {y:Kys} (hy:OkK y) (o:Bool):qWf (qXh y o)=seenK y o:=by
 have e0:qXh y o=beL 8 y.e.toNat++(y.k++([if o then 1 else 0]++(if o then y.o else z32))):=by simp [qXh,List.append_assoc]
 have ho:(if o then y.o else z32).length=32:=by cases o<;>simp [hy.2,z32]
 have h1:qKj (qXh y o)=(⟨y.k++([if o then 1 else 0]++(if o then y.o else z32)),0⟩,y.e.toNat):=by
  rw[qKj,e0]
  have:=numS_beL y.e.toNat 8 (by omega) (by omega) (y.k++([if o then 1 else 0]++(if o then y.o else z32)))
  rw[show((8:Nat):Int)=8 from rfl]at this
  rw[this,Nat.mod_eq_of_lt (by have:=y.e.toNat_lt;simpa using this)]
 have h2:qVt (qXh y o)=(⟨[if o then 1 else 0]++(if o then y.o else z32),0⟩,y.k,true):=by
  rw[qVt,h1]
  have:=qWG y.k ([if o then 1 else 0]++(if o then y.o else z32)) 32 (by omega) hy.1
  rw[show((32:Nat):Int)=32 from rfl]at this
  exact this
 have h3:qJz (qXh y o)=(⟨if o then y.o else z32,0⟩,if o then 1 else 0):=by
  rw[qJz,h2,numS]
  have:=qWG [if o then 1 else 0] (if o then y.o else z32) 1 (by omega) rfl
  rw[show((1:Nat):Int)=1 from rfl]at this
  rw[show min (1:Int) 8=1 from rfl]
  show((qZD ⟨[if o then 1 else 0]++(if o then y.o else z32),0⟩ 1).1,qXk (qZD ⟨[if o then 1 else 0]++(if o then y.o else z32),0⟩ 1).2.1)=_
  rw[this]
  cases o<;>rfl
 have h4:qK6 (qXh y o)=(⟨[],0⟩,(if o then y.o else z32),true):=by
  rw[qK6,h3]
  have:=qWG (if o then y.o else z32) [] 32 (by omega) ho
  rw[show((32:Nat):Int)=32 from rfl,List.append_nil]at this
  exact this
 rw[qWf,h1,h2,h3,h4,seenK]
 show(⟨UInt64.ofNat y.e.toNat,fitK y.k,fitK (if o then y.o else z32),decide ((if o then 1 else 0)=1)⟩:Kys)=_
 rw[qVv hy.1,qVv ho,UInt64.ofNat_toNat]
 cases o<;>rfl
theorem learnB_text {y:Kys} (hy:OkK y) (o:Bool):qXJ (qXh y o)=true:=by
 rw[qXJ,qK5 hy]
 apply decide_eq_true
 cases o<;>rfl
theorem learnB_full:qXJ fullL=false:=by decide +kernel
def entI (y:Kys) (l:List Mem) (i:Nat) (e:Ent):Prop:=
 match l[i]? with
 | some z=>e=⟨z.k,qZF,qXh y z.o⟩
 | none=>e.beside=qZF∧e.text=fullL
theorem entAt_entI (y:Kys) (l:List Mem) (i:Nat) (s:BSt):entI y l i (qXd y l i s).2:=by
 unfold entI qXd
 cases l[i]? with
 | some z=>rfl
 | none=>exact⟨rfl,rfl⟩
theorem qVI {N:Nat} {s s':BSt} {e:Ent} {r:Option (List UInt8)} (hs:SealR s e s' r) (hm:s.mode=1) (ho:OnceS s.F N) (hw:WinB s) (hN:s.u+(e.text.length+28)≤N) :
  ∃x,r=some x∧x.length=e.text.length+28∧qXV s'.m x=some e∧(∀e' x',qXV s.m x'=some e'→qXV s'.m x'=some e')∧WinB s'∧s'.u≤s.u+(e.text.length+28)∧s'.mode=1∧s'.F=s.F:=by
 obtain⟨x,h1,h2,h3,h4,h5,h6⟩:=seal_good hs ho (fun _=>hw) hN
 have h7:=hs.mode
 have hm':s'.mode=1:=h7.1.trans hm
 refine⟨x,h1,h2,?_,fun e' x' hx=>?_,h5 hm',h6,hm',h7.2.1⟩
 ·rcases h3 with ⟨h,_⟩|⟨_,h⟩
  ·omega
  ·exact h
 ·rcases h4 e' x' (.inr ⟨hm,hx⟩)with ⟨h,_⟩|⟨_,h⟩
  ·omega
  ·exact h
structure RgI (y:Kys) (l:List Mem) (s:BSt) (xs:List (List UInt8)) (n:Nat):Prop where
 len:xs.length=n
 each:∀(i:Nat) (x:List UInt8),xs[i]?=some x→x.length=101∧∃e,qXV s.m x=some e∧entI y l i e
theorem win_u {s:BSt} (h:WinB s) (u:Nat) (hu:s.u≤u):WinB { s with u:=u }:=fun p hp=>by
 obtain⟨v,h1,h2,h3⟩:=h p hp
 exact⟨v,h1,kQk h2 hu,h3⟩
theorem qV5 {N:Nat} {y:Kys} (hy:OkK y) {l:List Mem} {s:BSt} (hm:s.mode=1) (ho:OnceS s.F N) (hw:WinB s) {n:Nat} {s1:BSt} {xs:List (List UInt8)} (h:WrapsR y l s n s1 xs) (hN:s.u+n*133≤N) :
  RgI y l s1 xs n∧WinB s1∧s1.u≤s.u+n*133∧s1.mode=1∧s1.F=s.F∧(∀e' x',qXV s.m x'=some e'→qXV s1.m x'=some e'):=by
 induction h with
 | zero=>exact⟨⟨rfl,fun i x hx=>by simp at hx⟩,hw,by omega,hm,rfl,fun _ _ h=>h⟩
 | @succ i sa sb xs x hwr hse ih=>
  obtain⟨h1,h2,h3,h4,h5,h6⟩:=ih (by omega)
  obtain⟨k1,k2,k3,k4,k5⟩:=@qZM y l i sa
  have hx:(qXd y l i sa).1={ sa with u:=(qXd y l i sa).1.u }:=by
   unfold qXd
   split<;>rfl
  have hu:sa.u≤(qXd y l i sa).1.u:=by
   unfold qXd
   split<;>simp
  have hw1:WinB (qXd y l i sa).1:=by rw [hx];exact win_u h2 _ hu
  obtain⟨x',e1,e2,e3,e4,e5,e6,e7,e8⟩:=qVI hse (by rw [k1];exact h4) (by rw [k2,h5];exact ho) hw1 (by rw [qXy hy];omega)
  rw[qXy hy]at e2 e6
  injection e1 with e1
  subst e1
  refine⟨⟨by simp [h1.len],fun j z hj=>?_⟩,e5,by omega,e7,by rw [e8,k2,h5],fun e' x' h=>e4 e' x' (by rw [k5];exact h6 e' x' h)⟩
  rcases Nat.lt_or_ge j xs.length with hjl|hjl
  ·rw [List.getElem?_append_left hjl]at hj
   obtain⟨q1,e,q2,q3⟩:=h1.each j z hj
   exact⟨q1,e,e4 _ _ (by rw [k5];exact q2),q3⟩
  ·have hje:j=xs.length:=by
    have:=(List.getElem?_eq_some_iff.1 hj).1
    simp at this
    omega
   subst hje
   rw[kQq (kQh _),Nat.sub_self]at hj
   simp only [kQg,Option.some.injEq]at hj
   subst hj
   exact⟨e2,_,e3,by rw [h1.len];exact entAt_entI y l i sa⟩
theorem ring_ideal {N:Nat} {y:Kys} (hy:OkK y) {l:List Mem} (hl:∀z∈l,OkM z) (h8:l.length≤8) {s s':BSt} (hm:s.mode=1) (ho:OnceS s.F N) (hw:WinB s) {r:Option (List (List UInt8)×List UInt8)} (h:qYn y l s s' r) (hN:s.u+1365≤N) :
  ∃xs d,r=some (xs,d)∧RgI y l s' xs 8∧qXV s'.m d=some (dirE y l)∧d.length=301∧WinB s'∧s'.u≤s.u+1365∧s'.mode=1∧s'.F=s.F∧(∀e' x',qXV s.m x'=some e'→qXV s'.m x'=some e'):=by
 have hd:(dirE y l).text.length=273:=qXu hl h8
 rcases h with ⟨i,s1,xs,hi,hwr,hse,rfl⟩|⟨s1,xs,hwr,hse,rfl⟩|⟨s1,xs,d,hwr,hse,rfl⟩
 ·exfalso
  obtain⟨h1,h2,h3,h4,h5,h6⟩:=qV5 hy hm ho hw hwr (by omega)
  obtain⟨k1,k2,k3,k4,k5⟩:=@qZM y l i s1
  have hx:(qXd y l i s1).1={ s1 with u:=(qXd y l i s1).1.u }:=by
   unfold qXd
   split<;>rfl
  have hu:s1.u≤(qXd y l i s1).1.u:=by
   unfold qXd
   split<;>simp
  have hw1:WinB (qXd y l i s1).1:=by rw [hx];exact win_u h2 _ hu
  obtain⟨x',e1,_⟩:=qVI hse (by rw [k1];exact h4) (by rw [k2,h5];exact ho) hw1 (by rw [qXy hy];omega)
  cases e1
 ·exfalso
  obtain⟨h1,h2,h3,h4,h5,h6⟩:=qV5 hy hm ho hw hwr (by omega)
  obtain⟨x',e1,_⟩:=qVI hse h4 (by rw [h5];exact ho) h2 (by rw [hd];omega)
  cases e1
 ·obtain⟨h1,h2,h3,h4,h5,h6⟩:=qV5 hy hm ho hw hwr (by omega)
  obtain⟨x',e1,e2,e3,e4,e5,e6,e7,e8⟩:=qVI hse h4 (by rw [h5];exact ho) h2 (by rw [hd];omega)
  injection e1 with e1
  subst e1
  rw[hd]at e2 e6
  refine⟨xs,d,rfl,⟨h1.len,fun i x hx=>?_⟩,e3,e2,e5,by omega,e7,by rw [e8,h5],fun e' x' h=>e4 e' x' (h6 e' x' h)⟩
  obtain⟨q1,e,q2,q3⟩:=h1.each i x hx
  exact⟨q1,e,e4 _ _ q2,q3⟩
theorem unwrap_none {y:Kys} {l:List Mem} {s:BSt} {xs:List (List UInt8)} {n:Nat} (h:RgI y l s xs n) (hm:s.mode=1) (k:List UInt8) (i:Nat) (hk:∀j z,i≤j→l[j]?=some z→z.k≠k):qZn s k (xs.drop i)=(kysZ,13):=by
 have key:∀q i,n-i=q→(∀j z,i≤j→l[j]?=some z→z.k≠k)→qZn s k (xs.drop i)=(kysZ,13):=by
  intro q
  induction q with
  | zero=>
   intro i hi _
   rw[kQt (by rw [h.len];omega)]
   rfl
  | succ q ih=>
   intro i hi hk
   obtain⟨x,hx⟩:∃x,xs[i]?=some x:=⟨_,kQi (by rw [h.len];omega)⟩
   have hr:=ih (i+1) (by omega) (fun j z hj=>hk j z (by omega))
   obtain⟨_,e,h1,h2⟩:=h.each i x hx
   rw[qWm hx,hr]
   have ho:qXn s k qZF x=if e.key=k∧e.beside=qZF then some e.text else none:=by rw [qXn,if_neg (by omega),h1]
   rw[ho]
   unfold entI at h2
   split at h2
   ·rename_i z hz
    rw[if_neg (fun hh=>hk i z (kQh _) hz (by rw [←hh.1,h2]))]
   ·by_cases hh:e.key=k∧e.beside=qZF
    ·rw [if_pos hh,h2.2]
     simp only
     rw[learnB_full]
     rfl
    ·rw [if_neg hh]
 exact key _ i rfl hk
theorem unwrap_mem {y:Kys} (hy:OkK y) {l:List Mem} {s:BSt} {xs:List (List UInt8)} {n:Nat} (h:RgI y l s xs n) (hm:s.mode=1) (j:Nat) (hj:j<n) (z:Mem) (hz:l[j]?=some z) (hd:∀i z',i<j→l[i]?=some z'→z'.k≠z.k):qZn s z.k xs=(seenK y z.o,0):=by
 have key:∀q i,j-i=q→i≤j→qZn s z.k (xs.drop i)=(seenK y z.o,0):=by
  intro q
  induction q with
  | zero=>
   intro i hi hij
   obtain rfl:i=j:=by omega
   obtain⟨x,hx⟩:∃x,xs[i]?=some x:=⟨_,kQi (by rw [h.len];exact hj)⟩
   obtain⟨_,e,h1,h2⟩:=h.each i x hx
   unfold entI at h2
   rw[hz]at h2
   have h2:e=⟨z.k,qZF,qXh y z.o⟩:=h2
   have ho:qXn s z.k qZF x=some (qXh y z.o):=by rw [qXn,if_neg (by omega),h1,h2];simp
   rw[qWm hx,ho]
   simp only
   rw[learnB_text hy,qK5 hy]
   rfl
  | succ q ih=>
   intro i hi hij
   obtain⟨x,hx⟩:∃x,xs[i]?=some x:=⟨_,kQi (by rw [h.len];omega)⟩
   obtain⟨_,e,h1,h2⟩:=h.each i x hx
   have hl:i<l.length:=by have:=(List.getElem?_eq_some_iff.1 hz).1;omega
   unfold entI at h2
   rw[kQi hl]at h2
   have h2:e=⟨l[i].k,qZF,qXh y l[i].o⟩:=h2
   have hne:=hd i _ (by omega) (kQi hl)
   have ho:qXn s z.k qZF x=none:=by
    rw[qXn,if_neg (by omega),h1,h2]
    simp only
    rw[if_neg (fun hh=>hne hh.1)]
   rw[qWm hx,ho]
   exact ih (i+1) (by omega) (by omega)
 have:=key j 0 (by omega) (by omega)
 rwa [List.drop_zero]at this
theorem qV4 {y:Kys} (hy:OkK y) {l:List Mem} {s:BSt} {n:Nat} (hn:273≤n) (h0:∀p∈s.m,s.mode=1→p.2.text.length≤n) {i:Nat} {s1:BSt} {xs:List (List UInt8)} (h:WrapsR y l s i s1 xs):∀p∈s1.m,s1.mode=1→p.2.text.length≤n:=by
 induction h with
 | zero=>exact h0
 | @succ i sa sb xs x _ hse ih=>
  obtain⟨k1,_,_,_,k5⟩:=@qZM y l i sa
  exact qWZ hse n (by rw [k1,k5];exact ih) (by rw [qXy hy];omega)
theorem qYp {y:Kys} (hy:OkK y) {l:List Mem} (hl:∀z∈l,OkM z) (h8:l.length≤8) {s s':BSt} {n:Nat} (hn:273≤n) (h0:∀p∈s.m,s.mode=1→p.2.text.length≤n) {r:Option (List (List UInt8)×List UInt8)} (h:qYn y l s s' r):∀p∈s'.m,s'.mode=1→p.2.text.length≤n:=by
 have hd:(dirE y l).text.length≤n:=by rw [show(dirE y l).text=dirL l from rfl,qXu hl h8];exact hn
 rcases h with ⟨i,s1,xs,hi,hwr,hse,rfl⟩|⟨s1,xs,hwr,hse,rfl⟩|⟨s1,xs,d,hwr,hse,rfl⟩
 ·obtain⟨k1,_,_,_,k5⟩:=@qZM y l i s1
  exact qWZ hse n (by rw [k1,k5];exact qV4 hy hn h0 hwr) (by rw [qXy hy];omega)
 ·exact qWZ hse n (qV4 hy hn h0 hwr) hd
 ·exact qWZ hse n (qV4 hy hn h0 hwr) hd
theorem wrap_bounds {y:Kys} (hy:OkK y) {l:List Mem} (hl:∀z∈l,OkM z) (h8:l.length≤8) {s s':BSt} {r:Option (List (List UInt8)×List UInt8)} (h:qYn y l s s' r):s'.mode=s.mode∧s'.F=s.F∧s'.u≤s.u+9200∧s'.n≤s.n+9∧s'.m.length≤s.m.length+9:=by
 have hd:(dirE y l).text.length=273:=qXu hl h8
 rcases h with ⟨i,s1,xs,hi,hwr,hse,rfl⟩|⟨s1,xs,hwr,hse,rfl⟩|⟨s1,xs,d,hwr,hse,rfl⟩
 ·obtain⟨k1,k2,k3,k4,k5⟩:=@qZM y l i s1
  obtain⟨b1,b2,b3,b4,b5⟩:=hwr.bounds hy
  obtain⟨c1,c2,c3,c4,c5⟩:=hse.mode
  rw[qXy hy]at c3
  rw[k1]at c1
  rw[k2]at c2
  rw[k5]at c5
  exact⟨c1.trans b1,c2.trans b2,by omega,by omega,by omega⟩
 ·obtain⟨b1,b2,b3,b4,b5⟩:=hwr.bounds hy
  obtain⟨c1,c2,c3,c4,c5⟩:=hse.mode
  rw[hd]at c3
  exact⟨c1.trans b1,c2.trans b2,by omega,by omega,by omega⟩
 ·obtain⟨b1,b2,b3,b4,b5⟩:=hwr.bounds hy
  obtain⟨c1,c2,c3,c4,c5⟩:=hse.mode
  rw[hd]at c3
  exact⟨c1.trans b1,c2.trans b2,by omega,by omega,by omega⟩
def qJb (zs:List Mem):List Value:=zs.flatMap RowM
theorem rowsM_get (zs:List Mem) (h:∀z∈zs,OkM z) (j:Nat) (z:Mem) (hj:zs[j]?=some z) (i:Nat) (hi:i<34):(qJb zs)[j*34+i]?=(RowM z)[i]?:=by
 induction zs generalizing j with
 | nil=>simp at hj
 | cons y zs ih=>
  have hy:=qQ7 (h y (by simp))
  rw[qJb,List.flatMap_cons]
  cases j with
  | zero=>
   simp only [kQg,Option.some.injEq]at hj
   subst hj
   rw[Nat.zero_mul,Nat.zero_add,List.getElem?_append_left (by omega)]
  | succ j=>
   simp only [kQe]at hj
   rw[kQq (by omega),hy,show(j+1)*34+i-34=j*34+i by omega]
   exact ih (fun x hx=>h x (by simp [hx])) j hj
theorem rowsM_append (zs ys:List Mem):qJb (zs++ys)=qJb zs++qJb ys:=by simp [qJb]
theorem RdM.ofV {W:World} {A:Option Addr} {zs:List Mem} (h:∀z∈zs,OkM z) (hr:RdV W A (qJb zs)):RdM W A zs:=by
 intro j z hj
 have hz:=h z (kQu hj)
 have hlen:=qQ7 hz
 obtain⟨b,o,e,_⟩:=hr (j*34) _ (by have:=rowsM_get zs h j z hj 0 (by omega);rw [Nat.add_zero]at this;rw [this];rfl)
 refine⟨hz,b,o,e,fun i v hi=>?_⟩
 have hi34:i<34:=by have:=(List.getElem?_eq_some_iff.1 hi).1;omega
 obtain⟨b',o',e',hc⟩:=hr (j*34+i) v (by rw [rowsM_get zs h j z hj i hi34,hi])
 rw[e]at e'
 cases e'
 rw[←hc,Nat.add_assoc]
theorem rowsM_one (zs:List Mem):∀u∈qJb zs,u.oneCell'=true:=by
 intro u hu
 simp only [qJb,List.mem_flatMap]at hu
 obtain⟨z,_,hz⟩:=hu
 simp only [RowM,B8,List.mem_cons,List.mem_append,List.mem_map,List.mem_nil_iff,or_false]at hz
 rcases hz with rfl|⟨x,_,rfl⟩|rfl<;>rfl
theorem MemK:SlK Tryz.prog 23 63 (.agg (RowM ⟨0,z32,false⟩).toArray) 34 48:=⟨Tryz.underlying23,by kernel_rfl,by kernel_rfl,by omega⟩
section
variable {P:Program} {o:Oper} {a:Act} {Q:Exit→Act→World→Prop} {K:Act→World→Prop} {W:World}
end
theorem eq_kysD (y y':Kys) (hy:OkK y) (hy':OkK y') (W:World) (dd:Nat) :
  (Op.equalIn (dd+3) 40 (.agg (RowK y).toArray) (.agg (RowK y').toArray)).run Tryz.prog W=.ok (decide (y.e=y'.e∧y.k=y'.k∧y.o=y'.o∧y.w=y'.w)) W:=by
 have hfs : (Tryz.prog.fieldsOf 40).toList.map (fun f => (f.name == "_", f.type, f.offset)) = [(false, 36, 0), (false, 38, 1), (false, 38, 33), (false, 4, 65)] := by kernel_rfl
 have ht:Tryz.prog.underlying 40=some (.struct (Tryz.prog.fieldsOf 40)):=by kernel_rfl
 have hp:Tryz.prog.stoodInHeld 40=false:=by kernel_rfl
 rw[run_equalIn_struct W (dd+2) _ _ _ ht hp]
 clear ht hp
 generalize (Tryz.prog.fieldsOf 40).toList=fs at hfs
 obtain⟨f1,f2,f3,f4,rfl⟩:∃f1 f2 f3 f4,fs=[f1,f2,f3,f4]:=by
  rcases fs with _|⟨f1,_|⟨f2,_|⟨f3,_|⟨f4,_|⟨f5,fs⟩⟩⟩⟩⟩<;>simp at hfs
  exact⟨f1,f2,f3,f4,rfl⟩
 simp only [kQw,List.map_nil,List.cons.injEq,Prod.mk.injEq,and_true]at hfs
 obtain⟨⟨n1,t1,o1⟩,⟨n2,t2,o2⟩,⟨n3,t3,o3⟩,n4,t4,o4⟩:=hfs
 have n1 : f1.name ≠ "_" := by simpa using n1
 have n2 : f2.name ≠ "_" := by simpa using n2
 have n3 : f3.name ≠ "_" := by simpa using n3
 have n4 : f4.name ≠ "_" := by simpa using n4
 have hsz:(Tryz.prog.info? 38).map (·.size)=some 32:=by kernel_rfl
 obtain⟨i,hi,hsz⟩:=Option.map_eq_some_iff.1 hsz
 have p1:∀y:Kys,(part 36 (RowK y).toArray 0).run Tryz.prog W=.ok (.int .u64 (y.e.toNat:Int)) W:=by
  intro y
  have hc:(RowK y).toArray[0]?=some (.int .u64 (y.e.toNat:Int)):=rfl
  simp only [part,isAgg,Sem.run_bind,run_underlying Tryz.underlying36,Result.andThen_ok,Sem.run_pure,hc]
  simp
 have p2:∀y:Kys,OkK y→(part 38 (RowK y).toArray 1).run Tryz.prog W=.ok (.agg (W8 y.k)) W:=by
  intro y hy
  have e1:(List.take 32 (RowK y).tail).toArray=W8 y.k:=by
   rw[RowK,List.tail_cons,List.take_append_of_le_length (by rw [qQt,hy.1];exact kQh _),kQn (by rw [qQt,hy.1];exact kQh _)]
   rfl
  simp only [part,isAgg,Sem.run_bind,run_underlying Tryz.underlying38,Result.andThen_ok,Sem.run_pure,sizeOf,typeInfo,hi,hsz]
  simp [hsz,hi]
  exact e1
 have p3:∀y:Kys,OkK y→(part 38 (RowK y).toArray 33).run Tryz.prog W=.ok (.agg (W8 y.o)) W:=by
  intro y hy
  have e1:(List.take 32 (List.drop 33 (RowK y))).toArray=W8 y.o:=by
   have l1:(Value.int .u64 (y.e.toNat:Int)::B8 y.k).length=33:=by simp [qQt,hy.1]
   rw[show RowK y=(Value.int .u64 (y.e.toNat:Int)::B8 y.k)++(B8 y.o++[.bool y.w])from rfl,List.drop_left' l1,List.take_append_of_le_length (by rw [qQt,hy.2];exact kQh _),kQn (by rw [qQt,hy.2];exact kQh _)]
   rfl
  simp only [part,isAgg,Sem.run_bind,run_underlying Tryz.underlying38,Result.andThen_ok,Sem.run_pure,sizeOf,typeInfo,hi,hsz]
  simp [hsz,hi]
  exact e1
 have p4:∀y:Kys,OkK y→(part 4 (RowK y).toArray 65).run Tryz.prog W=.ok (.bool y.w) W:=by
  intro y hy
  have hc:=rowK_w hy
  simp only [part,isAgg,Sem.run_bind,run_underlying Tryz.underlying4,Result.andThen_ok,Sem.run_pure,hc]
  simp
 have q1:=run_equalIn_int (P:=Tryz.prog) W (dd+1) 36 .u64 .u64 (y.e.toNat:Int) (y'.e.toNat:Int) Tryz.underlying36
 have q2:=eq_arr2 W 38 5 32 Tryz.underlying38 Tryz.underlying5 (by kernel_rfl) y.k y'.k hy.1 hy'.1 dd
 have q3:=eq_arr2 W 38 5 32 Tryz.underlying38 Tryz.underlying5 (by kernel_rfl) y.o y'.o hy.2 hy'.2 dd
 have q4:=run_equalIn_bool (P:=Tryz.prog) W (dd+1) 4 y.w y'.w Tryz.underlying4
 have a1:=p1 y
 have a2:=p1 y'
 have b1:=p2 y hy
 have b2:=p2 y' hy'
 have c1:=p3 y hy
 have c2:=p3 y' hy'
 have d1:=p4 y hy
 have d2:=p4 y' hy'
 clear p1 p2 p3 p4 hsz hi
 have ee:((y.e.toNat:Int)==(y'.e.toNat:Int))=decide (y.e=y'.e):=by
  by_cases h:y.e=y'.e
  ·rw [h];simp
  ·have:y.e.toNat≠y'.e.toNat:=fun hh=>h (UInt64.toNat_inj.1 hh)
   rw[decide_eq_false h,beq_eq_false_iff_ne]
   omega
 rw[ee]at q1
 unfold Op.eqFields
 rw[if_pos n1,t1,o1,Sem.run_bind,a1,Result.andThen_ok,Sem.run_bind,a2,Result.andThen_ok,Sem.run_bind,q1,Result.andThen_ok]
 by_cases h1:y.e=y'.e
 ·rw [decide_eq_true h1]
  unfold Op.eqFields
  simp only [Bool.not_true,Bool.false_eq_true,if_false]
  rw[if_pos n2,t2,o2,Sem.run_bind,b1,Result.andThen_ok,Sem.run_bind,b2,Result.andThen_ok,Sem.run_bind,q2,Result.andThen_ok]
  by_cases h2:y.k=y'.k
  ·rw [decide_eq_true h2]
   unfold Op.eqFields
   simp only [Bool.not_true,Bool.false_eq_true,if_false]
   rw[if_pos n3,t3,o3,Sem.run_bind,c1,Result.andThen_ok,Sem.run_bind,c2,Result.andThen_ok,Sem.run_bind,q3,Result.andThen_ok]
   by_cases h3:y.o=y'.o
   ·rw [decide_eq_true h3]
    unfold Op.eqFields
    simp only [Bool.not_true,Bool.false_eq_true,if_false]
    rw[if_pos n4,t4,o4,Sem.run_bind,d1,Result.andThen_ok,Sem.run_bind,d2,Result.andThen_ok,Sem.run_bind,q4,Result.andThen_ok]
    unfold Op.eqFields
    by_cases h4:y.w=y'.w<;>simp [h1,h2,h3,h4]
   ·rw [decide_eq_false h3]
    simp [h3]
  ·rw [decide_eq_false h2]
   simp [h2]
 ·rw [decide_eq_false h1]
  simp [h1]
theorem kys_ext (y y':Kys):(y.e=y'.e∧y.k=y'.k∧y.o=y'.o∧y.w=y'.w)↔y=y':=by
 cases y
 cases y'
 simp
instance:DecidableEq Kys:=fun y y'=>decidable_of_iff _ (kys_ext y y')
theorem run_eq_kys {o:Oper} {a:Act} (t2:TypeId) (x z:Operand) (ho:o.op=.binOp .eql 40 x z t2) (y y':Kys) (hy:OkK y) (hy':OkK y') (hx:a.eval x=.agg (RowK y).toArray) (hz:a.eval z=.agg (RowK y').toArray) (W:World) :
  (execOp a.eval o).run Tryz.prog W=.ok (.value (.bool (decide (y=y')))) W:=by
 have hm:Tryz.prog.eqGuardType Tryz.prog.depth 40=false:=by kernel_rfl
 have h:(Op.equalIn 10000 40 (.agg (RowK y).toArray) (.agg (RowK y').toArray)).run Tryz.prog W=.ok (decide (y=y')) W:=
  (eq_kysD y y' hy hy' W 9997).trans (congrArg (fun b=>Result.ok b W) (decide_eq_decide.2 (kys_ext y y')))
 unfold execOp
 simp only [ho,hx,hz,Sem.run_bind,Sem.run_pure,run_eql_struct,run_eqGuard_agg (w:=W) _ _ x z _ _ hm,h,Result.andThen_ok]
end Go.Proofs.YtlocplkjokoknaaGreat
namespace Go.Proofs.YtlocplkjokoknaaGreat
open Go.RowKit
attribute [local go_sem ↓] Go.wp_at_zero Go.wp_at_succ
theorem flat_len (ls:List (List UInt8)) (j:Nat):(ls.take j).flatten.length≤ls.flatten.length:=by
 conv=>rhs;rw [←List.take_append_drop j ls]
 rw[List.flatten_append,kQj]
 omega
theorem put_ring (w:World) (v:Value) (xs:List (List UInt8)) (d:List UInt8) (base:Nat) (hv:RgB base w v xs d) (hl:xs.length≤1000) (hf:xs.flatten.length≤1000000) (hd:d.length≤1000000) :
  Calls Tryz.prog 21 #[v] w fun e w'=>∃u,e=.returned u∧OwnB w' w.heap.size u (xs.flatten++d)∧Below w.heap.size w w':=by
 have TB:=Lh (show qXA Tryz.prog from⟨Tryz.underlying22,by kernel_rfl⟩)
 obtain⟨A1,c1,vs,dv,rfl,hc1,hvl,hrv,hA1,hxv,hdv⟩:=hv
 obtain⟨Ad,cd,rfl,hcd,hrd,_⟩:=hdv
 obtain⟨q,hq⟩:∃q,q=xs.length:=⟨_,rfl⟩
 obtain⟨nd,hnd⟩:∃nd,nd=d.length:=⟨_,rfl⟩
 have RV:=Lh hrv
 have XV:=Lh hxv
 have RDD:=Lh hrd
 have FL:=Lh hf
 obtain⟨rc,hrc⟩:∃rc:Array Value,rc=#[.slice A1 xs.length c1,.slice Ad d.length cd]:=⟨_,rfl⟩
 rw[←hrc]
 have IR:=Lh (show(Tryz.prog.info? 35).map (·.size)=some rc.size by rw [hrc];exact qZi)
 have R0:=Lh (show rc[0]?=some (.slice A1 q c1) by rw [hrc,hq];rfl)
 have R1:=Lh (show rc[1]?=some (.slice Ad nd cd) by rw [hrc,hnd];rfl)
 have Q1:=Lh hq.symm
 have ND:=Lh hnd.symm
 have NDB:=Lh (show nd≤1000000 by omega)
 have QB:=Lh (show q≤1000 by omega)
 have b0:(q:Int)≤1000:=by omega
 obtain⟨X,hX⟩:∃X,X=xs.flatten++d:=⟨_,rfl⟩
 rw[←hX]
 have XE:=Lh hX
 clear hc1 hvl hrv hA1 hxv hcd hrd hrc hq hnd hl hf hd hX
 go_enter Tryz.func21,Tryz.ntmps21
 go_upto_region 1 with fail
 generalize hM4:Array.size (World.heap w)=M4
 generalize hwa:World.alloc w _=w3
 have R4:=Lh (show w3.heap[M4]?=some (.cells rc 35 (0,0)) by rw [←hwa];exact qQk _ _ _ hM4.symm)
 have B3:=Lh (show Below w.heap.size w w3 by rw [←hwa];exact qQh _ _)
 have ME:=Lh hM4
 clear hwa hM4
 go_upto_region 2 with fail
 refine wp_region_list ?_
 simp only [kQf]
 refine qQa (by rfl) (by go_simp;rfl) ?_
 simp only [Act.put,pq1,pq2,pq3]
 refine qQa (by rfl) (qQq 33 (.tmp 6) rfl _ Tryz.underlying33 rfl rfl (qQg R4.out 0 R0.out)) ?_
 simp only [Act.put,pq1,pq2,pq3]
 refine qQa (by rfl) (by go_simp;rfl) ?_
 simp only [Act.put,pq1,pq2,pq3]
 refine qQa (by rfl) (by go_simp;rfl) ?_
 simp only [Act.put,pq1,pq2,pq3]
 go_wp2_with fail
 go_loopw [3,9] (fun u i wr=>∃j:Nat,j≤q∧i=.int .i64 (j:Int)∧OwnB wr w3.heap.size u (xs.take j).flatten∧Below w3.heap.size w3 wr) (fun _ i _=>q-(intOf i).toNat)
 case atStart=>exact⟨0,Nat.zero_le _,rfl,OwnB.nil _ _,Below.refl _ _⟩
 case round=>
  obtain⟨j,hj,rfl,ho,hb⟩:=hrel
  have J:=Lh hj
  have O:=Lh ho
  have Z:=Lh hb
  clear hj ho hb
  obtain⟨wp,rfl⟩:∃wp:World,wp=wr:=⟨_,rfl⟩
  have BP:=Lh (show Below w.heap.size w wp from B3.out.trans (Z.out.mono B3.out.size))
  have R4P:=Lh (qQb Z.out (qQe R4.out) R4.out)
  by_cases hlt:j<q
  ·have hD:decide ((j:Int)<(q:Int))=true:=by simp;omega
   obtain⟨x,hx⟩:∃x,xs[j]?=some x:=⟨_,kQi (by rw [Q1.out];exact hlt)⟩
   obtain⟨u,hu,hsl⟩:=XV.out j x hx
   obtain⟨Ax,cx,rfl,hcx,hrx,_⟩:=hsl
   obtain⟨b1,o1,hA1,hcell⟩:=RV.out j _ hu
   obtain⟨m,hm⟩:∃m,m=x.length:=⟨_,rfl⟩
   rw[←hm]at hcell hcx
   have TK:=Lh (show(xs.take (j+1)).flatten=(xs.take j).flatten++x by rw [List.take_add_one,hx];simp)
   have TL:=Lh (show(xs.take j).flatten.length+m≤1000000 by
    have h1:=flat_len xs (j+1)
    rw[List.take_add_one,hx]at h1
    simp only [Option.toList_some,List.flatten_append,kQj,List.flatten_cons,List.flatten_nil,List.append_nil]at h1
    have:=FL.out
    omega)
   have CX:=Lh (qJM hcell (BP.out.block b1 (cell_lt hcell)))
   have RX:=Lh (hrx.keep BP.out)
   have XL:=Lh hm.symm
   have AE:=Lh hA1
   have JQ:=Lh hlt
   have jb:(j:Int)≤999:=by have:=QB.out;omega
   clear hx hu hcx hrx hA1 hcell hm hlt
   go_upto_region 4 with fail
   refine wp_region_list ?_
   simp only [kQf]
   refine qQa (by rfl) (qQr 33 (.tmp 7) (.tmp 9) rfl 22 Tryz.underlying33 1 (by kernel_rfl) b1 o1 q c1 j JQ.out .i64 _ rfl (by rw [←AE.out];rfl) rfl _) ?_
   simp only [Act.put,pq1,pq2,pq3]
   refine qQa (by rfl) (qQq 22 (.tmp 11) rfl _ Tryz.underlying22 rfl rfl (by rw [Nat.mul_one];exact CX.out)) ?_
   simp only [Act.put,pq1,pq2,pq3]
   go_upto_region 5 with fail
   refine wp_region_list ?_
   simp only [kQf]
   refine qQa (by rfl) (by go_simp;rfl) ?_
   simp only [Act.put,pq1,pq2,pq3]
   refine qQa (by rfl) (by go_simp;rfl) ?_
   simp only [Act.put,pq1,pq2,pq3]
   refine qQs (by rfl) (fun K hK=>?_)
   refine qV2 TB.out (.tmp 13) (.tmp 14) rfl w3.heap.size _ (xs.take j).flatten x Ax m cx rfl rfl XL.out O.out RX.out Z.out.size (by have:=TL.out;omega) ?_
   intro v4 w4 ho hg _
   have Z:=Lh (qXI Z.out O.out hg)
   have O:=Lh (show OwnB w4 w3.heap.size v4 (xs.take (j+1)).flatten by rw [TK.out];exact ho)
   clear ho hg
   refine hK.out _ _ ?_
   clear hK K
   simp only [Act.put,pq1,pq2,pq3]
   go_wp2_with fail
   go_roundw
   case rel=>exact⟨j+1,by have:=JQ.out;omega,by go_num,O.out,Z.out⟩
   case measure=>have:=JQ.out;simp [intOf];omega
  ·have hD:decide ((j:Int)<(q:Int))=false:=by simp;omega
   have O:=Lh (show OwnB wp w3.heap.size _ xs.flatten by have h1:=O.out;rwa [kQn (by rw [Q1.out];omega)]at h1)
   go_upto_region 7 with fail
   refine wp_region_list ?_
   simp only [kQf]
   refine qQa (by rfl) (by go_simp;rfl) ?_
   simp only [Act.put,pq1,pq2,pq3]
   refine qQa (by rfl) (by go_simp;rfl) ?_
   simp only [Act.put,pq1,pq2,pq3]
   refine qQa (by rfl) (qQq 22 (.tmp 18) rfl _ Tryz.underlying22 rfl rfl (qQg R4P.out 1 R1.out)) ?_
   simp only [Act.put,pq1,pq2,pq3]
   refine qQs (by rfl) (fun K hK=>?_)
   refine qV2 TB.out (.tmp 17) (.tmp 19) rfl w3.heap.size _ xs.flatten d Ad nd cd rfl rfl ND.out O.out (RDD.out.keep BP.out) Z.out.size (by have:=FL.out;have:=NDB.out;omega) ?_
   intro v4 w4 ho hg _
   have Z:=Lh (qXI Z.out O.out hg)
   have O:=Lh (show OwnB w4 w3.heap.size v4 X by rw [XE.out];exact ho)
   clear ho hg
   refine hK.out _ _ ?_
   clear hK K
   simp only [Act.put,pq1,pq2,pq3]
   go_wp2_with fail
   go_ret
   exact⟨_,rfl,O.out.mono B3.out.size,B3.out.trans (Z.out.mono B3.out.size)⟩
end Go.Proofs.YtlocplkjokoknaaGreat
namespace Go.Proofs.YtlocplkjokoknaaGreat
set_option maxRecDepth 100000
def nilF:List UInt8:=[]
def nilS:List UInt8:=[227,176,196,66,152,252,28,20,154,251,244,200,153,111,185,36,39,174,65,228,100,155,147,76,164,149,153,27,120,82,184,85]
theorem nilS_eq:qZ8 nilF=nilS:=by decide +kernel
def nilB0:List (List UInt8):=[[92,93,66,220,243,159,113,192,34,108,167,32,216,213,24,219,97,91,87,115,240,56,229,228,145,150,63,111,71,98,27,189],[72,242,176,23,37,133,181,117,19,41,110,181,167,210,35,145,219,126,16,166,109,230,246,211,184,15,21,87,84,136,96,36],[239,118,49,110,33,192,194,80,245,49,130,214,77,144,198,115,152,255,75,212,76,56,94,13,227,127,157,109,75,78,197,89],[19,119,130,208,78,213,141,28,89,23,145,186,166,43,249,200,241,37,11,24,85,205,99,225,177,101,7,208,185,251,81,237],[91,61,202,84,238,46,42,220,209,126,194,209,127,53,76,70,20,29,137,114,114,167,125,74,35,201,205,178,173,0,128,253],[213,183,150,212,102,56,53,47,53,228,87,31,118,184,10,35,37,190,114,100,177,238,133,16,10,105,161,3,22,202,238,83]]
theorem nilB0_eq:(List.range 6).map (fun j=>qZ8 (nilS++beL 8 (0+j)))=nilB0:=by decide +kernel
def nilB1:List (List UInt8):=[[101,62,34,25,7,35,36,52,12,11,195,222,103,110,196,165,212,231,178,73,240,169,31,158,205,139,59,25,143,253,20,129],[129,151,133,217,83,244,140,32,54,64,35,168,52,117,76,180,34,237,88,48,111,209,31,214,166,83,110,140,215,25,85,166],[125,27,192,222,117,189,67,179,233,206,190,202,139,129,10,227,240,84,253,14,101,109,56,94,46,141,160,42,99,97,59,121],[230,103,70,169,227,218,117,31,184,72,199,135,12,86,160,142,166,61,234,213,81,15,40,243,1,125,236,7,186,171,227,0],[55,138,47,74,147,122,128,38,103,89,62,206,73,138,10,40,161,217,45,10,2,244,160,254,202,130,237,142,170,18,52,160],[168,54,87,206,128,182,223,52,252,226,82,79,203,161,233,10,179,223,113,199,210,239,24,236,182,20,59,185,157,204,68,25]]
theorem nilB1_eq:(List.range 6).map (fun j=>qZ8 (nilS++beL 8 (6+j)))=nilB1:=by decide +kernel
def nilB2:List (List UInt8):=[[29,183,150,74,121,221,134,41,115,224,174,34,80,3,86,114,174,60,233,208,87,41,63,210,223,199,112,98,239,103,88,161],[237,53,199,104,160,176,208,71,36,155,22,205,85,12,178,254,113,108,42,221,217,58,161,171,82,34,180,163,173,25,203,61],[110,115,4,145,92,42,176,223,68,13,171,206,188,179,190,115,96,160,167,98,160,102,150,55,62,31,94,76,121,199,226,58],[219,240,152,215,84,138,208,142,95,213,138,203,134,39,135,230,107,140,119,210,216,216,219,46,70,89,203,85,102,221,95,83],[185,144,183,187,229,121,230,147,117,230,194,29,76,119,218,242,110,78,208,218,255,145,18,184,70,25,188,147,180,18,130,242],[196,173,83,34,167,132,202,128,6,231,123,186,33,89,254,245,115,23,153,221,255,1,80,247,108,209,56,243,27,88,81,234]]
theorem nilB2_eq:(List.range 6).map (fun j=>qZ8 (nilS++beL 8 (12+j)))=nilB2:=by decide +kernel
def nilB3:List (List UInt8):=[[52,135,185,210,98,165,54,25,202,239,144,7,144,254,57,150,253,245,197,52,7,127,154,165,85,49,13,41,73,249,17,122],[94,24,46,176,104,23,227,121,192,102,169,179,8,20,230,151,212,117,111,180,107,93,93,140,92,0,163,224,10,0,116,52],[246,119,229,254,241,253,89,21,212,187,21,23,31,23,26,138,7,78,202,141,16,252,117,96,63,218,231,54,126,249,21,233],[67,63,166,245,112,103,124,68,152,115,126,54,176,212,68,97,254,38,13,87,148,226,178,110,92,101,110,198,66,170,87,152],[59,19,1,41,66,0,117,95,11,16,208,245,52,179,150,100,175,148,106,50,70,171,249,62,76,49,84,122,103,66,76,220],[39,221,21,0,134,191,243,82,115,239,53,210,251,41,242,204,217,193,241,132,145,196,146,177,144,237,53,35,206,147,134,58]]
theorem nilB3_eq:(List.range 6).map (fun j=>qZ8 (nilS++beL 8 (18+j)))=nilB3:=by decide +kernel
def nilB4:List (List UInt8):=[[93,92,230,254,44,199,94,41,110,132,161,238,2,208,179,0,74,157,235,13,82,69,200,180,0,11,129,156,52,44,118,41],[242,196,21,19,226,124,63,187,7,85,115,213,170,49,153,70,242,223,200,52,71,59,244,140,185,199,218,20,116,242,230,168],[122,162,97,108,168,214,203,58,252,128,213,182,223,154,186,35,132,237,87,156,50,151,45,222,142,147,233,105,38,52,190,100],[88,141,3,185,135,193,222,14,210,225,139,72,246,46,22,80,246,209,90,176,166,183,221,229,202,120,216,83,163,46,89,251],[142,134,96,206,52,232,224,209,151,218,190,229,62,1,247,129,45,167,24,131,137,41,150,40,8,208,53,152,196,62,37,108],[19,207,253,79,114,203,16,68,35,5,248,66,137,93,82,110,19,111,140,255,208,161,168,221,78,40,53,84,28,75,215,121]]
theorem nilB4_eq:(List.range 6).map (fun j=>qZ8 (nilS++beL 8 (24+j)))=nilB4:=by decide +kernel
def nilB5:List (List UInt8):=[[240,219,126,17,247,35,170,38,20,41,152,250,15,237,55,129,206,190,72,154,49,14,194,101,137,70,149,147,171,205,114,249],[189,16,164,229,191,240,38,87,121,60,169,63,65,209,28,164,79,100,196,96,35,22,70,203,219,150,10,101,89,255,4,255],[152,132,68,229,222,233,221,204,22,117,252,180,45,96,16,90,85,14,240,57,21,197,16,206,242,230,227,114,24,246,41,85],[52,116,119,29,131,173,159,16,131,3,2,196,149,151,239,10,240,76,13,119,117,220,213,254,200,41,20,229,198,248,237,0],[233,214,224,107,72,244,83,39,179,97,140,182,24,142,115,243,129,34,229,203,237,28,0,93,214,120,115,48,69,153,99,137],[90,78,230,134,230,45,105,243,92,0,147,141,0,34,36,5,186,131,63,155,181,107,254,19,82,40,172,198,137,235,55,67]]
theorem nilB5_eq:(List.range 6).map (fun j=>qZ8 (nilS++beL 8 (30+j)))=nilB5:=by decide +kernel
def nilB6:List (List UInt8):=[[42,167,48,164,86,228,25,189,240,176,150,28,81,254,239,48,225,30,9,5,249,107,245,205,176,33,102,212,133,235,136,190],[83,182,251,175,105,251,103,151,232,169,17,254,219,153,236,246,159,66,69,248,74,153,6,165,246,143,88,82,174,234,31,101],[100,94,34,116,0,121,68,154,107,212,85,211,210,114,141,191,37,53,104,24,173,93,68,93,207,36,204,167,100,166,110,129],[96,193,99,202,173,109,170,47,129,117,175,142,97,125,139,74,83,248,255,42,210,42,143,125,33,22,252,128,101,70,7,64],[115,245,70,91,41,105,74,90,45,101,230,241,11,226,45,136,57,176,242,119,6,98,110,204,77,103,166,216,142,156,188,104],[199,81,227,90,23,3,19,240,91,59,199,58,196,247,84,119,176,123,103,8,212,159,206,171,254,220,214,85,227,86,146,235]]
theorem nilB6_eq:(List.range 6).map (fun j=>qZ8 (nilS++beL 8 (36+j)))=nilB6:=by decide +kernel
def nilB7:List (List UInt8):=[[36,154,89,228,145,22,94,253,168,1,154,221,137,135,219,227,38,217,119,24,113,144,215,128,243,47,191,126,205,135,40,115],[45,229,18,7,172,145,209,116,87,122,20,186,250,51,65,197,37,135,80,57,163,82,158,247,5,220,245,37,26,222,162,223],[29,78,237,145,61,202,0,172,42,2,241,168,182,73,14,58,183,238,7,139,45,163,115,82,16,100,28,220,186,161,228,60]]
theorem nilB7_eq:(List.range 3).map (fun j=>qZ8 (nilS++beL 8 (42+j)))=nilB7:=by decide +kernel
def nilBs:List (List UInt8):=nilB0++nilB1++nilB2++nilB3++nilB4++nilB5++nilB6++nilB7
def nilT:List UInt8:=nilF++nilBs.flatten
theorem qJe:nilT.length=1440:=by decide +kernel
theorem nilBs_get (j:Nat) (hj:j<45):qZ8 (nilS++beL 8 j)=nilBs.getD j []:=by
 have key:∀(c n:Nat) (B:List (List UInt8)),(List.range n).map (fun j=>qZ8 (nilS++beL 8 (c+j)))=B→∀i,i<n→qZ8 (nilS++beL 8 (c+i))=B.getD i []:=by
  intro c n B h i hi
  rw[←h]
  simp [kQa,hi]
 have k0:=key 0 6 _ nilB0_eq
 have k1:=key 6 6 _ nilB1_eq
 have k2:=key 12 6 _ nilB2_eq
 have k3:=key 18 6 _ nilB3_eq
 have k4:=key 24 6 _ nilB4_eq
 have k5:=key 30 6 _ nilB5_eq
 have k6:=key 36 6 _ nilB6_eq
 have k7:=key 42 3 _ nilB7_eq
 clear key
 by_cases h0:j<6
 ·obtain⟨i,rfl⟩:∃i,j=0+i:=⟨j-0,by omega⟩
  rw[k0 i (by omega)]
  match i,(show i<6 by omega)with
  | 0,_=>rfl
  | 1,_=>rfl
  | 2,_=>rfl
  | 3,_=>rfl
  | 4,_=>rfl
  | 5,_=>rfl
  | n+6,h=>exact absurd h (by omega)
 by_cases h1:j<12
 ·obtain⟨i,rfl⟩:∃i,j=6+i:=⟨j-6,by omega⟩
  rw[k1 i (by omega)]
  match i,(show i<6 by omega)with
  | 0,_=>rfl
  | 1,_=>rfl
  | 2,_=>rfl
  | 3,_=>rfl
  | 4,_=>rfl
  | 5,_=>rfl
  | n+6,h=>exact absurd h (by omega)
 by_cases h2:j<18
 ·obtain⟨i,rfl⟩:∃i,j=12+i:=⟨j-12,by omega⟩
  rw[k2 i (by omega)]
  match i,(show i<6 by omega)with
  | 0,_=>rfl
  | 1,_=>rfl
  | 2,_=>rfl
  | 3,_=>rfl
  | 4,_=>rfl
  | 5,_=>rfl
  | n+6,h=>exact absurd h (by omega)
 by_cases h3:j<24
 ·obtain⟨i,rfl⟩:∃i,j=18+i:=⟨j-18,by omega⟩
  rw[k3 i (by omega)]
  match i,(show i<6 by omega)with
  | 0,_=>rfl
  | 1,_=>rfl
  | 2,_=>rfl
  | 3,_=>rfl
  | 4,_=>rfl
  | 5,_=>rfl
  | n+6,h=>exact absurd h (by omega)
 by_cases h4:j<30
 ·obtain⟨i,rfl⟩:∃i,j=24+i:=⟨j-24,by omega⟩
  rw[k4 i (by omega)]
  match i,(show i<6 by omega)with
  | 0,_=>rfl
  | 1,_=>rfl
  | 2,_=>rfl
  | 3,_=>rfl
  | 4,_=>rfl
  | 5,_=>rfl
  | n+6,h=>exact absurd h (by omega)
 by_cases h5:j<36
 ·obtain⟨i,rfl⟩:∃i,j=30+i:=⟨j-30,by omega⟩
  rw[k5 i (by omega)]
  match i,(show i<6 by omega)with
  | 0,_=>rfl
  | 1,_=>rfl
  | 2,_=>rfl
  | 3,_=>rfl
  | 4,_=>rfl
  | 5,_=>rfl
  | n+6,h=>exact absurd h (by omega)
 by_cases h6:j<42
 ·obtain⟨i,rfl⟩:∃i,j=36+i:=⟨j-36,by omega⟩
  rw[k6 i (by omega)]
  match i,(show i<6 by omega)with
  | 0,_=>rfl
  | 1,_=>rfl
  | 2,_=>rfl
  | 3,_=>rfl
  | 4,_=>rfl
  | 5,_=>rfl
  | n+6,h=>exact absurd h (by omega)
 obtain⟨i,rfl⟩:∃i,j=42+i:=⟨j-42,by omega⟩
 rw[k7 i (by omega)]
 match i,(show i<3 by omega)with
 | 0,_=>rfl
 | 1,_=>rfl
 | 2,_=>rfl
 | n+3,h=>exact absurd h (by omega)
theorem nilT_get (i:Nat) (hi:i<nilT.length):qJ8 nilF i=nilT.getD i 0:=by
 rw[qJe]at hi
 by_cases h:i<0
 ·rw [qJ8,if_pos (by show i<0;exact h),nilT,kQa,kQa,List.getElem?_append_left (by show i<0;exact h)]
 ·rw [qJ8,if_neg (by show ¬i<0;exact h),nilS_eq,show nilF.length=0 from rfl,nilBs_get _ (by omega),nilT,kQa (l:=nilF++_),kQq (by show 0≤i;omega),show nilF.length=0 from rfl]
  have hf:∀(B:List (List UInt8)),(∀b∈B,b.length=32)→∀i,i/32<B.length→(B.flatten)[i]?.getD 0=(B.getD (i/32) []).getD (i % 32) 0:=flat_get
  exact(hf _ (by decide +kernel) _ (by have h2:nilBs.length=45:=(by decide +kernel);omega)).symm
theorem nil_once (u v n:Nat) (hn:3≤n) (hu:u+n≤1440) (hv:v+n≤1440) (he:qQR nilF u n=qQR nilF v n):u=v:=by
 have h:(qYP (wins (256 ^ (2+1)) (valO 0 (natT (nilT.take 2))) (natT (nilT.drop 2))) .nil).isSome=true:=by decide +kernel
 obtain⟨t,ht⟩:=Option.isSome_iff_exists.1 h
 exact told_once nilT_get ht u v n (by omega) (by rw [qJe];exact hu) (by rw [qJe];exact hv) he
end Go.Proofs.YtlocplkjokoknaaGreat
namespace Go.Proofs.YtlocplkjokoknaaGreat
open Go.RowKit
attribute [local go_sem ↓] Go.wp_at_zero Go.wp_at_succ
def qWQ:Mem:=⟨1,keyK 7,true⟩
theorem ok_memOne:OkM qWQ:=⟨rfl,by decide,by decide⟩
theorem nil_onceS:OnceS nilF 1440:=fun u v n h28 hu hv he=>nil_once u v n (by omega) hu hv he
def oneY:Kys:=qVu ⟨1,[],0,[],0⟩ 5
theorem one_check:qZd [qWQ]=true:=by decide
theorem flat_101 (xs:List (List UInt8)) (h:∀(i:Nat) (x:List UInt8),xs[i]?=some x→x.length=101):xs.flatten.length=101*xs.length:=by
 induction xs with
 | nil=>rfl
 | cons x xs ih=>
  rw[List.flatten_cons,kQj,h 0 x rfl,ih (fun i z hz=>h (i+1) z (by simpa using hz)),List.length_cons]
  omega
theorem one_plainR {s':BSt} {r:Option (List (List UInt8)×List UInt8)} (h:qYn oneY [qWQ] ⟨1,[],64,[],0⟩ s' r) :
  ∃xs d,r=some (xs,d)∧s'.mode=1∧xs.length=8∧(∀x∈xs,x.length≤70000)∧xs.flatten.length=808∧d.length=301∧qZn s' (keyK 7) xs=(oneY,0)∧qZn s' (keyK 8) xs=(kysZ,13)∧∀p∈s'.m,s'.mode=1→p.2.text.length≤100000:=by
 have hy:OkK oneY:=qKW _ _
 have hl:∀z∈[qWQ],OkM z:=fun z hz=>by
  simp only [List.mem_cons,List.mem_nil_iff,or_false]at hz
  subst hz
  exact ok_memOne
 obtain⟨xs,d,h1,h2,h3,h4,h5,h6,h7,h8,h9⟩:=ring_ideal hy hl (by simp) rfl (show OnceS (⟨1,[],64,[],0⟩:BSt).F 1440 from nil_onceS) (fun p hp=>by cases hp) h (by show 64+1365≤1440;omega)
 have hlen:=h2.len
 refine⟨xs,d,h1,h7,hlen,fun x hx=>?_,?_,h4,?_,?_,?_⟩
 ·obtain⟨i,hi⟩:=List.getElem?_of_mem hx
  rw[(h2.each i x hi).1]
  omega
 ·rw [flat_101 xs (fun i x hx=>(h2.each i x hx).1),hlen]
 ·exact unwrap_mem hy h2 h7 0 (by omega) qWQ rfl (fun i z hi=>absurd hi (Nat.not_lt_zero _))
 ·have:=unwrap_none h2 h7 (keyK 8) 0 (fun j z _ hz=>by
   have hj:j=0:=by have:=(List.getElem?_eq_some_iff.1 hz).1;simp at this;omega
   subst hj
   simp only [kQg,Option.some.injEq]at hz
   subst hz
   decide)
  rwa [List.drop_zero]at this
 ·exact qYp hy hl (by simp) (n:=100000) (by omega) (fun p hp=>by cases hp) h
theorem RgB.agg {base:Nat} {W:World} {v:Value} {xs:List (List UInt8)} {d:List UInt8} (h:RgB base W v xs d):∃rc:Array Value,v=.agg rc∧rc.size=2∧rc.all (·.oneCell')=true:=by
 obtain⟨A,c,vs,dv,h1,_,_,_,_,_,_,_,h2,_⟩:=h
 refine⟨_,h1,rfl,?_⟩
 rw[h2]
 simp [Value.oneCell']
theorem build_mem1 (W:World):(Instr.build 63 #[(0,.int .i64 1),(1,.agg (W8 (keyK 7))),(2,.bool true)]).run Tryz.prog W=.ok (.agg (RowM qWQ).toArray) W:=by kernel_rfl
theorem build_mems1 (W:World):(Instr.buildSlice 23 1 #[(0,.agg (RowM qWQ).toArray)]).run Tryz.prog W=.ok (.slice (some ⟨W.heap.size,0,none⟩) 1 1) (W.alloc (.cells (RowM qWQ).toArray 63)):=by
 kernel_rfl
theorem qVn {o:Oper} {a:Act} (t2:TypeId) (x z:Operand) (ho:o.op=.binOp .eql 40 x z t2) (y:Kys) (hy:OkK y) (hx:a.eval x=.agg (RowK y).toArray) (hz:a.eval z=.agg (RowK y).toArray) (W:World):(execOp a.eval o).run Tryz.prog W=.ok (.value (.bool true)) W:=by
 have:=run_eq_kys t2 x z ho y y hy hy hx hz W
 rwa [decide_eq_true rfl]at this
section
variable {o:Oper} {a:Act} {Q:Exit→Act→World→Prop} {K:Act→World→Prop} {W:World}
theorem run_memOne (x:Operand) (ho:o.op=.build 63 #[(0,.const (.int .i64 1)),(1,x),(2,.const (.bool true))]) (hx:a.eval x=.agg (W8 (keyK 7))) (W:World):(execOp a.eval o).run Tryz.prog W=.ok (.value (.agg (RowM qWQ).toArray)) W:=by
 unfold execOp
 simp only [ho,kQs,kQw,List.map_nil,hx,show a.eval (.const (.bool true))=.bool true from rfl,show a.eval (.const (.int .i64 1))=.int .i64 1 from rfl,Sem.run_bind,build_mem1,Result.andThen_ok,Sem.run_pure]
theorem wp_memsOne (x:Operand) (ho:o.op=.buildSlice 23 1 #[(0,x)]) (hx:a.eval x=.agg (RowM qWQ).toArray) (h:K (a.put o.dst (.slice (some ⟨W.heap.size,0,none⟩) 1 1)) (W.alloc (.cells (RowM qWQ).toArray 63))):o.wp Tryz.prog a W K Q:=by
 have h1:=build_mems1 W
 unfold Oper.wp execOp
 simp only [ho,kQs,kQw,List.map_nil,hx,Sem.run_bind,Sem.run_pure,h1,Result.andThen_ok]
 exact h
end
theorem one_true (w:World):Calls Tryz.prog 12 #[] w fun e w'=>e=.returned (.bool true)∧Below w.heap.size w w':=by
 go_enter Tryz.func12,Tryz.ntmps12
 go_wp2_with fail
 refine(dnew_any w none 0 0 _ [] rfl (fun j v hj=>by simp at hj) .nil (by decide) (by omega)).mono ?_
 rintro e w4 ⟨S,D,rfl,hg,hD1,hD2,hs,hb⟩
 have SW:=Lh (SrcW.new hg hD1 hD2 hs hb)
 clear hg hD1 hD2 hs hb
 go_wp2_with fail
 refine(bnew_any w S D [] 0 w4 SW.out 1 (.inr rfl)).mono ?_
 rintro e w5 ⟨g,b,lo,rfl,hbx,hb2,hlo⟩
 obtain⟨L,hL⟩:∃L,L=w5.heap.size:=⟨_,rfl⟩
 have X:=Lh (hbx.raise rfl (show lo≤L by rw [hL];exact hlo))
 have LE:=Lh hL
 have LT:=Lh (show g<L∧S<L∧D<L∧b<L by rw [hL];exact hbx.lt)
 have WL:=Lh (show w.heap.size≤L by rw [hL];exact hbx.bel.size)
 clear hbx hb2 hlo hL SW
 go_upto_region 2 with fail
 refine wp_region_list ?_
 simp only [kQf]
 refine qQa (by rfl) (by go_simp;rfl) ?_
 simp only [Act.put,pq1,pq2,pq3]
 refine qQa (by rfl) (qKq (.const (.int .u8 7)) rfl 7 rfl _) ?_
 simp only [Act.put,pq1,pq2,pq3]
 refine qQa (by rfl) (run_memOne (.tmp 17) rfl rfl _) ?_
 simp only [Act.put,pq1,pq2,pq3]
 refine qQs (by rfl) (fun K hK=>?_)
 refine wp_memsOne (.tmp 18) rfl rfl ?_
 generalize hN:Array.size (World.heap w5)=N5
 generalize hw:World.alloc w5 _=w6
 have B6:=Lh (show Below w5.heap.size w5 w6 by rw [←hw];exact qQh _ _)
 have RM:=Lh (show RdM w6 (some ⟨N5,0,none⟩) [qWQ]from fun j z hj=>by
  have hj0:j=0:=by have:=(List.getElem?_eq_some_iff.1 hj).1;simp at this;omega
  subst hj0
  simp only [kQg,Option.some.injEq]at hj
  subst hj
  exact⟨ok_memOne,N5,0,rfl,by rw [←hw];exact qQ5 (qQk _ _ _ hN.symm)⟩)
 have NE:=Lh (show N5=L by rw [LE.out,hN])
 have X6:=Lh (X.out.keep B6.out)
 clear hN hw
 refine hK.out _ _ ?_
 clear hK K
 simp only [Act.put,pq1,pq2,pq3]
 have MK:=Lh (make_any w g S D b L ⟨1,[],0,[],0⟩ w6 X6.out (.inr rfl) 5 (some ⟨N5,0,none⟩) 1 [qWQ] RM.out (kQh _) (by simp) (fun _ a e=>by cases e;show N5≠g∧N5≠S∧N5≠b;have:=LT.out;have:=NE.out;omega)
  (by show 0+11000≤900000;omega) (by show([]:List UInt8).length≤100000;simp) (by show([]:List (List UInt8×Ent)).length≤5000;simp) (by show 0≤50000;omega) (by have:=B6.out.size;have:=LE.out;omega) LT.out.2.2.1 WL.out)
 refine qQs (by rfl) (fun K hK=>?_)
 go_simp
 refine MK.out.mono ?_
 clear MK
 rintro e w7 (⟨hf,_⟩|⟨_,sZ,r,hwr,hbx,hbf,hr⟩)
 ·rw [one_check]at hf
  cases hf
 obtain⟨xs,d,rfl,hmode,hxl,hx7,hxf,hdl,hu7,hu8,htx⟩:=one_plainR hwr
 obtain⟨v,rfl,hrg⟩:=hr
 have H7:=Lh hbx
 have RG:=Lh hrg
 have MO:=Lh hmode
 have XL:=Lh hxl
 have X7:=Lh hx7
 have XF:=Lh hxf
 have DL:=Lh hdl
 have U7:=Lh hu7
 have U8:=Lh hu8
 have TX:=Lh htx
 have B7:=Lh (show w6.heap.size≤w7.heap.size from hbf.1)
 clear hwr hbx hbf hrg hmode hxl hx7 hxf hdl hu7 hu8 htx
 refine hK.out _ _ ?_
 clear hK K
 obtain⟨rc,rfl,hsz,hone⟩:=RG.out.agg
 have IR:=Lh (show(Tryz.prog.info? 35).map (·.size)=some rc.size by rw [hsz];exact qZi)
 have SZ:=Lh hsz
 have ONE:=Lh hone
 have ZK:=Lh zeroK
 have OY:=Lh (show OkK oneY from qKW _ _)
 rw[show qVu ⟨1,[],0,[],0⟩ 5=oneY from rfl]
 clear hsz hone
 refine qQa (by rfl) (by go_simp;rfl) ?_
 simp only [Act.put,pq1,pq2,pq3]
 refine qQa (by rfl) (by go_simp;rfl) ?_
 simp only [Act.put,pq1,pq2,pq3]
 refine qQa (by rfl) (by go_simp;rfl) ?_
 simp only [Act.put,pq1,pq2,pq3]
 refine qQa (by rfl) (by go_simp;rfl) ?_
 simp only [Act.put,pq1,pq2,pq3]
 refine qQs (by rfl) (fun K hK=>?_)
 go_simp
 refine hK.out _ _ ?_
 clear hK K
 refine qQs (by rfl) (fun K hK=>?_)
 go_simp
 refine hK.out _ _ ?_
 clear hK K
 rw[←ZK.out]
 generalize hM3:Array.size (World.heap w7)=M3
 generalize hwa:World.alloc w7 _=wa
 have sa:wa.heap.size=M3+1:=by rw [←hwa,qQD,hM3]
 have ra:wa.heap[M3]?=some (.cells RingZ 35 (0,0)):=by rw [←hwa];exact qQk _ _ _ hM3.symm
 generalize hwb:World.alloc wa _=w8
 have ba:Below wa.heap.size wa w8:=by rw [←hwb];exact qQh _ _
 have R3:=Lh (qQb ba (qQe ra) ra)
 have R4:=Lh (show w8.heap[M3+1]?=some (.cells (RowK kysZ).toArray 40 (0,0)) by rw [←hwb];exact qQk _ _ _ sa.symm)
 have B8:=Lh (show Below w7.heap.size w7 w8 from by
  have h1:Below w7.heap.size w7 wa:=by rw [←hwa];exact qQh _ _
  exact h1.trans (ba.mono h1.size))
 have ME:=Lh hM3
 clear hwa sa ra hwb ba hM3
 refine qQf rfl rfl 35 (.tmp 3) (.tmp 21) rfl M3 rc rfl rfl 35 _ R3.out IR.out (by rw [SZ.out];rfl) ONE.out ?_
 intro w9 hz9 hg9 _
 refine qQf rfl rfl 40 (.tmp 4) (.tmp 22) rfl (M3+1) (RowK oneY).toArray rfl rfl 40 _ (qQd hg9 (fun e=>by have:=Option.some.inj e;omega) R4.out) (qQO _ OY.out) (by rw [qXN _ qZr,qXN _ OY.out]) (qZO _) ?_
 intro w10 hz10 hg10 _
 have R3:=Lh (qQd hg10 (fun e=>by have:=Option.some.inj e;omega) hz9)
 have R4:=Lh hz10
 have BA:=Lh (show Below w7.heap.size w7 w10 from qQo (qQo B8.out hg9 (by rw [ME.out];exact kQh _)) hg10 (by rw [ME.out];omega))
 have HA:=Lh (H7.out.keep BA.out)
 have RGA:=Lh (RG.out.keep BA.out)
 clear hz9 hg9 hz10 hg10 H7 RG B8
 go_upto_region 3 with fail
 refine wp_region_list ?_
 simp only [kQf]
 refine qQa (by rfl) (by go_simp;rfl) ?_
 simp only [Act.put,pq1,pq2,pq3]
 refine qQa (by rfl) (qQj 35 (.tmp 3) rfl M3 rfl 35 rc (0,0) _ R3.out Tryz.underlying35 rfl IR.out) ?_
 simp only [Act.put,pq1,pq2,pq3]
 refine qQa (by rfl) (qKq (.const (.int .u8 7)) rfl 7 rfl _) ?_
 simp only [Act.put,pq1,pq2,pq3]
 have UX:=Lh (qJU w g S D b L sZ w10 HA.out (.inr MO.out) (.agg rc) xs d _ RGA.out X7.out (by rw [XL.out];omega) (keyK 7) rfl TX.out)
 rw[U7.out]at UX
 refine qQs (by rfl) (fun K hK=>?_)
 go_simp
 refine UX.out.mono ?_
 clear UX
 rintro e w11 ⟨rfl,hb⟩
 have BB:=Lh hb
 clear hb
 refine hK.out _ _ ?_
 clear hK K
 go_upto_region 4 with (refine qQp rfl rfl 40 (.tmp 6) (.tmp 29) rfl (RowK oneY).toArray rfl rfl (qQO _ OY.out) (by rw [←ZK.out,qXN _ qZr,qXN _ OY.out]) (qZO _) ?_)
 generalize hM6:Array.size (World.heap w11)=M6
 generalize hw12:World.alloc w11 _=w12
 have BC:=Lh (show Below w10.heap.size w10 w12 by rw [←hw12];exact BB.out.alloc BB.out.size _)
 have R6:=Lh (show w12.heap[M6]?=some (.cells (RowK oneY).toArray 40 (0,0)) by rw [←hw12];exact qQk _ _ _ hM6.symm)
 have R3C:=Lh (qQb BC.out (qQe R3.out) R3.out)
 have R4C:=Lh (qQb BC.out (qQe R4.out) R4.out)
 have HC:=Lh (HA.out.keep BC.out)
 have RGC:=Lh (RGA.out.keep BC.out)
 clear hM6 hw12
 refine wp_region_list ?_
 simp only [kQf]
 refine qQa (by rfl) (by go_simp;rfl) ?_
 simp only [Act.put,pq1,pq2,pq3]
 refine qQa (by rfl) (qQj 35 (.tmp 3) rfl M3 rfl 35 rc (0,0) _ R3C.out Tryz.underlying35 rfl IR.out) ?_
 simp only [Act.put,pq1,pq2,pq3]
 refine qQa (by rfl) (qKq (.const (.int .u8 8)) rfl 8 rfl _) ?_
 simp only [Act.put,pq1,pq2,pq3]
 have UX:=Lh (qJU w g S D b L sZ w12 HC.out (.inr MO.out) (.agg rc) xs d _ RGC.out X7.out (by rw [XL.out];omega) (keyK 8) rfl TX.out)
 rw[U8.out]at UX
 refine qQs (by rfl) (fun K hK=>?_)
 go_simp
 refine UX.out.mono ?_
 clear UX
 rintro e w13 ⟨rfl,hb⟩
 have BD:=Lh hb
 clear hb
 refine hK.out _ _ ?_
 clear hK K
 go_upto_region 5 with (refine qQp rfl rfl 40 (.tmp 8) (.tmp 36) rfl (RowK kysZ).toArray rfl rfl (qQO _ qZr) (by rw [←ZK.out]) (qZO _) ?_)
 generalize hw14:World.alloc w13 _=w14
 have BE:=Lh (show Below w12.heap.size w12 w14 by rw [←hw14];exact BD.out.alloc BD.out.size _)
 have R3E:=Lh (qQb BE.out (qQe R3C.out) R3C.out)
 have R4E:=Lh (qQb BE.out (qQe R4C.out) R4C.out)
 have R6E:=Lh (qQb BE.out (qQe R6.out) R6.out)
 have RGE:=Lh (RGC.out.keep BE.out)
 have HE:=Lh (HC.out.keep BE.out)
 clear hw14
 refine wp_region_list ?_
 simp only [kQf]
 refine qQa (by rfl) (by go_simp;rfl) ?_
 simp only [Act.put,pq1,pq2,pq3]
 refine qQa (by rfl) (by go_simp;rfl) ?_
 simp only [Act.put,pq1,pq2,pq3]
 refine qQa (by rfl) (by go_simp;rfl) ?_
 simp only [Act.put,pq1,pq2,pq3]
 refine qQl (by rfl) (by go_simp;rfl) ?_
 simp only [Act.put,pq1,pq2,pq3]
 refine qQl (by rfl) (by go_simp;rfl) ?_
 simp only [Act.put,pq1,pq2,pq3]
 refine qQa (by rfl) (by go_simp;rfl) ?_
 simp only [Act.put,pq1,pq2,pq3]
 refine qQa (by rfl) (by go_simp;rfl) ?_
 simp only [Act.put,pq1,pq2,pq3]
 refine qQl (by rfl) (qQj 40 (.tmp 6) rfl M6 rfl 40 (RowK oneY).toArray (0,0) _ R6E.out Tryz.underlying40 rfl (qQO _ OY.out)) ?_
 simp only [Act.put,pq1,pq2,pq3]
 refine qQl (by rfl) (qQj 40 (.tmp 4) rfl (M3+1) rfl 40 (RowK oneY).toArray (0,0) _ R4E.out Tryz.underlying40 rfl (qQO _ OY.out)) ?_
 simp only [Act.put,pq1,pq2,pq3]
 refine qQl (by rfl) (qVn _ (.tmp 45) (.tmp 46) rfl oneY OY.out rfl rfl _) ?_
 simp only [Act.put,pq1,pq2,pq3]
 refine qQa (by rfl) (by go_simp;rfl) ?_
 simp only [Act.put,pq1,pq2,pq3]
 refine qQa (by rfl) (by go_simp;rfl) ?_
 simp only [Act.put,pq1,pq2,pq3]
 refine qQl (by rfl) (by go_simp;rfl) ?_
 simp only [Act.put,pq1,pq2,pq3]
 refine qQl (by rfl) (qQq 36 (.tmp 50) rfl _ Tryz.underlying36 rfl rfl (qQg R4E.out 0 (show(RowK oneY).toArray[0]?=some (.int .u64 5)from rfl))) ?_
 simp only [Act.put,pq1,pq2,pq3]
 refine qQl (by rfl) (by go_simp;rfl) ?_
 simp only [Act.put,pq1,pq2,pq3]
 refine qQa (by rfl) (by go_simp;rfl) ?_
 simp only [Act.put,pq1,pq2,pq3]
 refine qQa (by rfl) (by go_simp;rfl) ?_
 simp only [Act.put,pq1,pq2,pq3]
 refine qQl (by rfl) (by go_simp;rfl) ?_
 simp only [Act.put,pq1,pq2,pq3]
 refine qQl (by rfl) (by go_simp;rfl) ?_
 simp only [Act.put,pq1,pq2,pq3]
 refine qQa (by rfl) (by go_simp;rfl) ?_
 simp only [Act.put,pq1,pq2,pq3]
 refine qQa (by rfl) (by go_simp;rfl) ?_
 simp only [Act.put,pq1,pq2,pq3]
 refine qQl (by rfl) (qQj 35 (.tmp 3) rfl M3 rfl 35 rc (0,0) _ R3E.out Tryz.underlying35 rfl IR.out) ?_
 simp only [Act.put,pq1,pq2,pq3]
 go_wp2_with fail
 refine(put_ring w14 (.agg rc) xs d _ RGE.out (by rw [XL.out];omega) (by rw [XF.out];omega) (by rw [DL.out];omega)).mono ?_
 rintro e w15 ⟨u,rfl,ho,hb⟩
 obtain⟨Au,cu,rfl,_,_,_,_⟩:=ho.read
 rw[show(xs.flatten++d).length=1109 by rw [kQj,XF.out,DL.out]]
 have BF:=Lh (show Below w.heap.size w w15 from HE.out.bel.trans (hb.mono HE.out.bel.size))
 clear ho hb
 go_wp2_with fail
 go_ret
 exact⟨rfl,BF.out⟩
end Go.Proofs.YtlocplkjokoknaaGreat
namespace Go.Proofs.YtlocplkjokoknaaGreat
open Go.RowKit Go.Extern.Stop Go.Stop Go.Extern
noncomputable def isGz:Nat:=Tryz.prog.globals.size
theorem is_typeOf (v:Value) (w:World):(Extern.ReflectliteType.typeOf #[.iface 25 v]).run Tryz.prog w=.ok (.iface 188 (.agg #[.pointer (some ⟨isGz,25,none⟩)])) w:=by kernel_rfl
theorem is_noIs (v:Value) (xT:TypeId) (w:World):(Instr.typeAssert (.iface 25 v) xT 190 true).run Tryz.prog w=.ok (.tuple #[.nilIface,.bool false]) w:=run_typeAssert_lacksB Tryz.underlying190 (by kernel_rfl) (by kernel_rfl) v xT w
theorem is_noUn (v:Value) (xT:TypeId) (w:World):(Instr.typeAssert (.iface 25 v) xT 193 true).run Tryz.prog w=.ok (.tuple #[.nilIface,.bool false]) w:=run_typeAssert_lacksB Tryz.underlying193 (by kernel_rfl) (by kernel_rfl) v xT w
theorem is_noUns (v:Value) (xT:TypeId) (w:World):(Instr.typeAssert (.iface 25 v) xT 195 true).run Tryz.prog w=.ok (.tuple #[.nilIface,.bool false]) w:=run_typeAssert_lacksB Tryz.underlying195 (by kernel_rfl) (by kernel_rfl) v xT w
theorem is_eq3 (w:World):(binOp .eql 138 (.iface 25 (.int .i64 3)) (.iface 25 (.int .i64 3))).run Tryz.prog w=.ok (.bool true) w:=by kernel_rfl
theorem is_eq10 (w:World):(binOp .eql 138 (.iface 25 (.int .i64 10)) (.iface 25 (.int .i64 3))).run Tryz.prog w=.ok (.bool false) w:=by kernel_rfl
theorem is_method (n : Nat) (v : Value) (w : World) : (Go.method (n + 1) 188 v "Comparable").run Tryz.prog w = .ok (161, v) w := by kernel_rfl
def isComp : Array Value → Sem Value := Extern.ReflectliteType.method fun t => do Rtype.noPackHeld "Comparable" t; pure (.bool (← typeInfo t).comparable)
theorem qJD (w:World):(isComp #[.agg #[.pointer (some ⟨isGz,25,none⟩)]]).run Tryz.prog w=.ok (.bool true) w:=by kernel_rfl
theorem qK7 (args:Array Value) (w:World):(callFunc 161 args).run Tryz.prog w=((isComp args).run Tryz.prog w).andThen fun v w'=>.ok (Next.value v) w':=
 @run_callFunc_extern Tryz.prog 161 _ isComp Tryz.func161 (by kernel_rfl) (by kernel_rfl) (by kernel_rfl) (by kernel_rfl) args w
theorem is_big (w:World):Calls Tryz.prog 65 #[.iface 25 (.int .i64 3),.iface 25 (.int .i64 3)] w fun e w'=>e=.returned (.bool true)∧w'=w:=by
 have h8:=@run_callFunc_extern Tryz.prog 84 _ Extern.ReflectliteType.typeOf Tryz.func84 (by kernel_rfl) (by kernel_rfl) (by kernel_rfl) (by kernel_rfl)
 have h32:=qK7
 have tT:=is_typeOf
 have cT:=qJD
 have mR:=is_method
 have heq:=is_eq3
 go_enter Tryz.func65,Tryz.ntmps65
 go_wp2
 refine wp_loop_rounds 1 ?_
 rw[rounds_succ]
 go_wp2
 go_ret
 exact⟨rfl,rfl⟩
theorem is_end (w:World):Calls Tryz.prog 65 #[.iface 25 (.int .i64 10),.iface 25 (.int .i64 3)] w fun e w'=>e=.returned (.bool false)∧w'=w:=by
 have h8:=@run_callFunc_extern Tryz.prog 84 _ Extern.ReflectliteType.typeOf Tryz.func84 (by kernel_rfl) (by kernel_rfl) (by kernel_rfl) (by kernel_rfl)
 have h32:=qK7
 have tT:=is_typeOf
 have cT:=qJD
 have mR:=is_method
 have heq:=is_eq10
 have nE:=is_noIs
 have uE:=is_noUn
 have vE:=is_noUns
 go_enter Tryz.func65,Tryz.ntmps65
 go_wp2
 refine wp_loop_rounds 1 ?_
 rw[rounds_succ]
 go_wp2
 go_ret
 exact⟨rfl,rfl⟩
end Go.Proofs.YtlocplkjokoknaaGreat
namespace Go.Proofs.YtlocplkjokoknaaGreat
open Go.RowKit
attribute [local go_sem ↓] Go.wp_at_zero Go.wp_at_succ
theorem wrong_any (g D:Nat) (s:RSt) (w:World) (h:Rdr g D s w) :
  Calls Tryz.prog 42 #[.pointer (some ⟨g,0,none⟩)] w fun e w'=>e=.returned (.int .i64 (s.e:Int))∧w'=w:=by
 have R:=Lh h
 obtain⟨A,c,h1,_⟩:=h.has
 have c1:=qQg h1 1 rfl
 have hc:=qYR h.ok
 clear h1 h
 rcases hc with ⟨he,hv⟩|⟨he,_,hv⟩|⟨he,_,hv⟩
 ·have E:=Lh he
  clear hv he c1
  go_enter Tryz.func42,Tryz.ntmps42
  go_wp2_with fail
  refine(qVQ g D s w R.out).mono ?_
  rw[E.out]
  rintro e w ⟨rfl,rfl⟩
  go_wp2_with fail
  go_ret
  exact⟨by rw [E.out];rfl,rfl⟩
 ·rw [hv]at c1
  have E:=Lh he
  clear hv he
  go_enter Tryz.func42,Tryz.ntmps42
  go_wp2_with fail
  refine(qVQ g D s w R.out).mono ?_
  rw[E.out]
  rintro e w1 ⟨rfl,hw⟩
  rw[hw]
  clear hw w1
  go_wp2_with fail
  refine(is_big w).mono ?_
  rintro e w1 ⟨rfl,hw⟩
  rw[hw]
  clear hw w1
  go_wp2_with fail
  go_ret
  exact⟨by rw [E.out];rfl,rfl⟩
 ·rw [hv]at c1
  have E:=Lh he
  clear hv he
  go_enter Tryz.func42,Tryz.ntmps42
  go_wp2_with fail
  refine(qVQ g D s w R.out).mono ?_
  rw[E.out]
  rintro e w1 ⟨rfl,hw⟩
  rw[hw]
  clear hw w1
  go_wp2_with fail
  refine(is_end w).mono ?_
  rintro e w1 ⟨rfl,hw⟩
  rw[hw]
  clear hw w1
  go_wp2_with fail
  go_ret
  exact⟨by rw [E.out];rfl,rfl⟩
end Go.Proofs.YtlocplkjokoknaaGreat
namespace Go.Proofs.YtlocplkjokoknaaGreat
open Go.RowKit
theorem build_memQ (z:Int) (q:Bool) (W:World):(Instr.build 63 #[(0,.int .i64 z),(2,.bool q)]).run Tryz.prog W=.ok (.agg (.int .i64 z::(B8 z32++[.bool q])).toArray) W:=by kernel_rfl
theorem run_memQ {o:Oper} {a:Act} (x y:Operand) (ho:o.op=.build 63 #[(0,x),(2,y)]) (z:Int) (q:Bool) (hx:a.eval x=.int .i64 z) (hy:a.eval y=.bool q) (W:World):(execOp a.eval o).run Tryz.prog W=.ok (.value (.agg (RowM ⟨z,z32,q⟩).toArray)) W:=by
 unfold execOp
 simp only [ho,kQs,kQw,List.map_nil,hx,hy,Sem.run_bind,build_memQ,Result.andThen_ok,Sem.run_pure,RowM]
theorem build_memsV:∀(z v0 v1 v2 v3 v4 v5 v6 v7 v8 v9 v10 v11 v12 v13 v14 v15 v16 v17 v18 v19 v20 v21 v22 v23 v24 v25 v26 v27 v28 v29 v30 v31 q:Value) (W:World),(Instr.buildSlice 23 1 #[(0,.agg #[z,v0,v1,v2,v3,v4,v5,v6,v7,v8,v9,v10,v11,v12,v13,v14,v15,v16,v17,v18,v19,v20,v21,v22,v23,v24,v25,v26,v27,v28,v29,v30,v31,q])]).run Tryz.prog W=.ok (.slice (some ⟨W.heap.size,0,none⟩) 1 1) (W.alloc (.cells #[z,v0,v1,v2,v3,v4,v5,v6,v7,v8,v9,v10,v11,v12,v13,v14,v15,v16,v17,v18,v19,v20,v21,v22,v23,v24,v25,v26,v27,v28,v29,v30,v31,q] 63)):=by
 intros
 kernel_rfl
theorem build_memsG (z:Mem) (hz:OkM z) (W:World):(Instr.buildSlice 23 1 #[(0,.agg (RowM z).toArray)]).run Tryz.prog W=.ok (.slice (some ⟨W.heap.size,0,none⟩) 1 1) (W.alloc (.cells (RowM z).toArray 63)):=by
 obtain⟨n,k,q⟩:=z
 have hk:k.length=32:=hz.1
 match k,hk with
 | [k0,k1,k2,k3,k4,k5,k6,k7,k8,k9,k10,k11,k12,k13,k14,k15,k16,k17,k18,k19,k20,k21,k22,k23,k24,k25,k26,k27,k28,k29,k30,k31],_=>exact build_memsV _ _ _ _ _ _ _ _ _ _ _ _ _ _ _ _ _ _ _ _ _ _ _ _ _ _ _ _ _ _ _ _ _ _ W
theorem rowM_fit (z:Mem) (hz:z.k=z32) (x:List UInt8) (hx:x.length≤32):((RowM z).toArray.toList.take 1++(B8 x++(RowM z).toArray.toList.drop (1+x.length))).toArray=(RowM { z with k:=fitK x }).toArray:=by
 have h1:RowM z=.int .i64 z.n::(B8 z32++[.bool z.o]):=by rw [RowM,hz]
 show((RowM z).take 1++(B8 x++(RowM z).drop (1+x.length))).toArray=_
 rw[h1,Nat.add_comm 1,List.drop_succ_cons,List.drop_append_of_le_length (by simp [qQt,z32];omega)]
 simp [RowM,fitK,B8,List.map_drop]
section
variable {o:Oper} {a:Act} {Q:Exit→Act→World→Prop} {K:Act→World→Prop} {W:World}
theorem wp_mems1 (x:Operand) (z:Mem) (hz:OkM z) (ho:o.op=.buildSlice 23 1 #[(0,x)]) (hx:a.eval x=.agg (RowM z).toArray) (h:K (a.put o.dst (.slice (some ⟨W.heap.size,0,none⟩) 1 1)) (W.alloc (.cells (RowM z).toArray 63))):o.wp Tryz.prog a W K Q:=by
 have h1:=build_memsG z hz W
 unfold Oper.wp execOp
 simp only [ho,kQs,kQw,List.map_nil,hx,Sem.run_bind,Sem.run_pure,h1,Result.andThen_ok]
 exact h
end
end Go.Proofs.YtlocplkjokoknaaGreat
namespace Go.Proofs.YtlocplkjokoknaaGreat
open Go.RowKit
attribute [local go_sem ↓] Go.wp_at_zero Go.wp_at_succ
def qVr:Nat→RSt→List Mem
 | 0,_=>[]
 | n+1,s=>if s.e≠0 then []else⟨((numS s 1).2:Int),fitK (qZD (numS (numS s 1).1 1).1 32).2.1,decide ((numS (numS s 1).1 1).2=1)⟩::qVr n (qZD (numS (numS s 1).1 1).1 32).1
def qZZ (t:List UInt8):List Mem:=qVr (numS ⟨t,0⟩ 1).2 (numS ⟨t,0⟩ 1).1
theorem numS_one (s:RSt):(numS s 1).2≤255:=by
 have h1:=qJO (qZD s (min 1 8)).2.1
 have h2:=qVH s (min 1 8) 1 (by omega)
 have h3:256 ^ (qZD s (min 1 8)).2.1.length≤256 ^ 1:=Nat.pow_le_pow_right (by omega) h2
 rw[numS]
 show qXk (qZD s (min 1 8)).2.1≤255
 omega
def MembersP (s:BSt) (key d:List UInt8) (w:World) (e:Ending) (w':World):Prop:=
 ((qXn s key dirB d=none∧e=.returned (.tuple #[.slice none 0 0,.int .i64 12]))∨
 (∃t,qXn s key dirB d=some t∧(qZd (qZZ t)&&decide (dirL (qZZ t)=t))=false∧e=.returned (.tuple #[.slice none 0 0,.int .i64 11]))∨
 (∃t A c,qXn s key dirB d=some t∧(qZd (qZZ t)&&decide (dirL (qZZ t)=t))=true∧e=.returned (.tuple #[.slice A (qZZ t).length c,.int .i64 0])∧RdM w' A (qZZ t)∧(qZZ t).length≤c))∧Below w.heap.size w w'
theorem members_any (w0:World) (g S D b lo:Nat) (s:BSt) (w:World) (h:BoxB w0 g S D b lo s w) (hmo:s.mode=0∨s.mode=1) (v:Value) (xs:List (List UInt8)) (d:List UInt8) (base:Nat) (hv:RgB base w v xs d) (hd:d.length≤70000)
  (k:List UInt8) (hk:k.length=32) (ht:∀p∈s.m,s.mode=1→p.2.text.length≤100000) :
  Calls Tryz.prog 19 #[.pointer (some ⟨g,0,none⟩),v,.agg (W8 k)] w (MembersP s k d w):=by
 have TB:=Lh (show qXA Tryz.prog from⟨Tryz.underlying22,by kernel_rfl⟩)
 have H:=Lh h
 have HMO:=Lh hmo
 have HK:=Lh hk
 have HT:=Lh ht
 obtain⟨A1,c1,vs,dv,rfl,_,_,_,_,_,hdv⟩:=hv
 obtain⟨Ad,cd,rfl,hcd,hrd,_⟩:=hdv
 obtain⟨nd,hnd⟩:∃nd,nd=d.length:=⟨_,rfl⟩
 obtain⟨rc,hrc⟩:∃rc:Array Value,rc=#[.slice A1 xs.length c1,.slice Ad d.length cd]:=⟨_,rfl⟩
 rw[←hrc]
 have IR:=Lh (show(Tryz.prog.info? 35).map (·.size)=some rc.size by rw [hrc];exact qZi)
 have R1:=Lh (show rc[1]?=some (.slice Ad nd cd) by rw [hrc,hnd];rfl)
 have IK:=Lh (qJE hk)
 have RDD:=Lh hrd
 have ND:=Lh hnd.symm
 have CD:=Lh (show nd≤cd by omega)
 have NDB:=Lh (show nd≤70000 by omega)
 clear h hmo hk ht hcd hrd hrc hnd hd
 go_enter Tryz.func19,Tryz.ntmps19
 go_upto_region 1 with fail
 generalize hM4:Array.size (World.heap w)=M4
 generalize hwa:World.alloc w _=wa
 have sa:wa.heap.size=M4+1:=by rw [←hwa,qQD,hM4]
 have ra:wa.heap[M4]?=some (.cells rc 35 (0,0)):=by rw [←hwa];exact qQk _ _ _ hM4.symm
 generalize hwb:World.alloc wa _=w3
 have ba:Below wa.heap.size wa w3:=by rw [←hwb];exact qQh _ _
 have R4:=Lh (qQb ba (qQe ra) ra)
 have R5:=Lh (show w3.heap[M4+1]?=some (.cells (W8 k) 38 (0,0)) by rw [←hwb];exact qQk _ _ _ sa.symm)
 have B3:=Lh (show Below w.heap.size w w3 from by
  have h1:Below w.heap.size w wa:=by rw [←hwa];exact qQh _ _
  exact h1.trans (ba.mono h1.size))
 have H3:=Lh (H.out.keep B3.out)
 clear hwa sa ra hwb ba hM4
 go_wp2_with fail
 refine(qKt w0 g S D b lo s w3 H3.out).mono ?_
 rintro e w4 ⟨rfl,hb⟩
 have B4:=Lh hb
 clear hb
 have R44:=Lh (qQb B4.out (qQe R4.out) R4.out)
 have R54:=Lh (qQb B4.out (qQe R5.out) R5.out)
 have BP:=Lh (show Below w.heap.size w w4 from B3.out.trans (B4.out.mono B3.out.size))
 go_upto_region 3 with fail
 refine wp_region_list ?_
 simp only [kQf]
 refine qQa (by rfl) (by go_simp;rfl) ?_
 simp only [Act.put,pq1,pq2,pq3]
 refine qQa (by rfl) (qQj 38 (.tmp 5) rfl (M4+1) rfl 38 (W8 k) (0,0) _ R54.out Tryz.underlying38 rfl IK.out) ?_
 simp only [Act.put,pq1,pq2,pq3]
 refine qQs (by rfl) (fun K hK=>?_)
 refine wp_dir rfl ?_
 generalize hB:Array.size (World.heap w4)=N4
 generalize hw:World.alloc w4 _=w9
 have B9:=Lh (show Below w4.heap.size w4 w9 by rw [←hw];exact qQh _ _)
 have R9:=Lh (show w9.heap[N4]?=some (.cells (W8 dirB) 5 (0,0)) by rw [←hw];exact qQk _ _ _ hB.symm)
 have N4E:=Lh hB
 clear hB hw
 refine hK.out _ _ ?_
 clear hK K
 simp only [Act.put,pq1,pq2,pq3]
 refine qQs (by rfl) (fun K hK=>?_)
 refine wp_cv (.tmp 19) rfl R9.out rfl ?_
 intro w10 hr10 hg10 _
 have B10:=Lh (show Below w4.heap.size w4 w10 from qQo B9.out hg10 (by rw [N4E.out];exact kQh _))
 have R10:=Lh (show RdB w10 (some ⟨N4,0,none⟩) dirB from RdB.row hr10)
 have R4X:=Lh (qQb B10.out (qQe R44.out) R44.out)
 clear hr10 hg10 R9 B9
 refine hK.out _ _ ?_
 clear hK K
 simp only [Act.put,pq1,pq2,pq3]
 refine qQa (by rfl) (by go_simp;rfl) ?_
 simp only [Act.put,pq1,pq2,pq3]
 refine qQa (by rfl) (qQq 22 (.tmp 21) rfl _ Tryz.underlying22 rfl rfl (qQg R4X.out 1 R1.out)) ?_
 simp only [Act.put,pq1,pq2,pq3]
 refine qQs (by rfl) (fun K hK=>?_)
 go_simp
 refine(qYT w0 g S D b lo s w10 ((H.out.keep BP.out).keep B10.out) HMO.out k dirB d HK.out (some ⟨N4,0,none⟩) 3 3 rfl R10.out (by omega) Ad nd cd ND.out CD.out ((RDD.out.keep BP.out).keep B10.out) NDB.out HT.out).mono ?_
 rcases hop:qXn s k dirB d with _|t
 ·have OP:=Lh hop
  clear hop
  rintro e w11 hop
  obtain⟨rfl,hb⟩:=OpenP.no hop
  have BN:=Lh (show Below w.heap.size w w11 from BP.out.trans ((B10.out.trans (hb.mono B10.out.size)).mono BP.out.size))
  clear hop hb
  refine hK.out _ _ ?_
  clear hK K
  go_wp2_with fail
  go_ret2
  exact⟨.inl ⟨OP.out,rfl⟩,BN.out⟩
 ·have OP:=Lh hop
  have TLEN:=Lh (qKV hop (by rw [ND.out];exact NDB.out) HT.out HMO.out)
  clear hop
  rintro e w11 hop
  obtain⟨⟨vt,rfl,ho⟩,hb⟩:=OpenP.yes hop
  obtain⟨At,ct,rfl,hrt,_,_,_⟩:=ho.read
  have RT:=Lh hrt
  have BN:=Lh (show Below w.heap.size w w11 from BP.out.trans ((B10.out.trans (hb.mono B10.out.size)).mono BP.out.size))
  obtain⟨nt,hnt⟩:∃nt,nt=t.length:=⟨_,rfl⟩
  rw[←hnt]
  have NT:=Lh hnt.symm
  clear hop ho hb hrt hnt
  refine hK.out _ _ ?_
  clear hK K
  go_wp2_with fail
  refine(rnew_any w11 At nt ct t NT.out RT.out (by have:=TLEN.out;have:=NT.out;omega)).mono ?_
  rintro e w12 ⟨rg,D0,rfl,hg,_,hrd,hb2⟩
  obtain⟨RD0,hD,hrd⟩:=hrd.fitL
  have RD:=Lh hrd
  have BW:=Lh (show Below w.heap.size w w12 from BN.out.trans (hb2.mono BN.out.size))
  have B12:=Lh (show Below w11.heap.size w11 w12 from hb2)
  have DL:=Lh hD
  have GL:=Lh (show w.heap.size≤rg∧w11.heap.size≤rg by have:=BN.out.size;omega)
  clear hg hrd hb2 hD
  go_wp2_with fail
  refine(qKZ rg RD0 ⟨t,0⟩ 1 (by omega) w12 RD.out).mono ?_
  rintro e w13 ⟨rfl,hrd,hg13⟩
  obtain⟨m0,hm0⟩:∃m0,m0=(numS ⟨t,0⟩ 1).2:=⟨_,rfl⟩
  rw[←hm0]
  have M0B:=Lh (show m0≤255 by rw [hm0];exact numS_one _)
  have MEM:=Lh (show qZZ t=[]++qVr m0 (numS ⟨t,0⟩ 1).1 by rw [hm0];rfl)
  have RD13:=Lh (show Rdr rg RD0 (numS ⟨t,0⟩ 1).1 w13 from hrd)
  have BW13:=Lh (qQo BW.out hg13 GL.out.1)
  have B13:=Lh (show Below w11.heap.size w11 w13 from qQo B12.out hg13 GL.out.2)
  have RG13:=Lh RD13.out.lt
  have RDL13:=Lh (show RD0<w13.heap.size by have:=DL.out;have:=hg13.size;omega)
  clear hrd hg13 hm0
  go_wp2_with fail
  go_loopw [11,12] (fun u i wr=>∃(m:Nat) (sr:RSt) (zs:List Mem),m≤255∧i=.int .u64 (m:Int)∧zs.length+m≤255∧OwnK wr w13.heap.size 63 34 u zs.length (qJb zs)∧(∀z∈zs,OkM z)∧Rdr rg RD0 sr wr∧qZZ t=zs++qVr m sr∧Below w.heap.size w wr∧Below w11.heap.size w11 wr∧w13.heap.size≤wr.heap.size) (fun _ i _=>(intOf i).toNat)
  case atStart=>exact⟨m0,_,[],M0B.out,rfl,by simpa using M0B.out,OwnK.nil _ _ _ _,by simp,RD13.out,MEM.out,BW13.out,B13.out,kQh _⟩
  case round=>
   obtain⟨m,sr,zs,hm,rfl,hzl,ho,hzk,hrd,hmem,hbw,hb11,hsz⟩:=hrel
   have MB:=Lh hm
   have ZL:=Lh hzl
   have O:=Lh ho
   have ZK2:=Lh hzk
   have RDX:=Lh hrd
   have MX:=Lh hmem
   have BX:=Lh hbw
   have BY:=Lh hb11
   have SZX:=Lh hsz
   have mb:(m:Int)≤255:=by omega
   clear hm hzl ho hzk hrd hmem hbw hb11 hsz
   obtain⟨wp,rfl⟩:∃wp:World,wp=wr:=⟨_,rfl⟩
   by_cases hm0:m=0
   ·subst hm0
    have ME:=Lh (show qZZ t=zs by rw [MX.out,qVr,List.append_nil])
    go_upto_region 14 with fail
    obtain⟨_,Ar,cr,rfl,hrv,hcr,_,_⟩:=O.out.read
    have RM:=Lh (RdM.ofV ZK2.out hrv)
    have CR:=Lh hcr
    have ZB:=Lh (show zs.length≤255 by have:=ZL.out;omega)
    clear hrv hcr
    go_wp2_with fail
    refine(qVz wp Ar cr zs RM.out CR.out (by have:=ZB.out;omega)).mono ?_
    rintro e wq ⟨rfl,hb⟩
    have BQ:=Lh hb
    clear hb
    rcases hck:qZd zs with _|_
    ·have CF:=Lh hck
     rw[show chk zs=2 by rw [chk,hck];rfl]
     clear hck
     go_wp2_with fail
     go_ret2
     exact⟨.inr (.inl ⟨t,OP.out,by rw [ME.out,CF.out];rfl,rfl⟩),BX.out.trans (BQ.out.mono BX.out.size)⟩
    ·have CF:=Lh hck
     rw[show chk zs=0 by rw [chk,hck];rfl]
     clear hck
     have SP:=Lh (qZN CF.out)
     go_wp2_with fail
     refine(dir_any wq Ar cr zs (RM.out.keep BQ.out) SP.out.1 SP.out.2).mono ?_
     rintro e wr2 ⟨vd,rfl,ho,hb⟩
     obtain⟨Ax,cx,rfl,hrx,_,_,_⟩:=ho.read
     have RX:=Lh hrx
     have BR2:=Lh (BQ.out.trans (hb.mono BQ.out.size))
     clear ho hb hrx
     go_wp2_with fail
     refine(beq_any wr2 Ax At _ nt cx ct (dirL zs) t rfl NT.out RX.out (RT.out.keep (BY.out.trans (BR2.out.mono BY.out.size)))).mono ?_
     rintro e wx ⟨rfl,hw⟩
     rw[hw]
     clear hw wx
     rcases hdt:decide (dirL zs=t)with _|_
     ·have DF:=Lh hdt
      clear hdt
      go_wp2_with fail
      go_ret2
      exact⟨.inr (.inl ⟨t,OP.out,by rw [ME.out,CF.out,DF.out];rfl,rfl⟩),BX.out.trans (BR2.out.mono BX.out.size)⟩
     ·have DF:=Lh hdt
      clear hdt
      go_wp2_with fail
      go_ret2
      exact⟨.inr (.inr ⟨t,Ar,cr,OP.out,by rw [ME.out,CF.out,DF.out];rfl,by rw [ME.out];rfl,by rw [ME.out];exact RM.out.keep BR2.out,by rw [ME.out];exact CR.out⟩),BX.out.trans (BR2.out.mono BX.out.size)⟩
   ·have hD:decide ((0:Int)<(m:Int))=true:=by simp;omega
    have mp:(0:Int)<(m:Int):=by omega
    go_wp2_with fail
    refine(wrong_any rg RD0 sr wp RDX.out).mono ?_
    rintro e wq ⟨rfl,hw⟩
    rw[hw]
    clear hw wq
    by_cases he:sr.e=0
    ·have hE:((sr.e:Int)==0)=true:=by simp [he]
     have ME:=Lh (show qZZ t=zs++(⟨((numS sr 1).2:Int),fitK (qZD (numS (numS sr 1).1 1).1 32).2.1,decide ((numS (numS sr 1).1 1).2=1)⟩::qVr (m-1) (qZD (numS (numS sr 1).1 1).1 32).1) by
      rw[MX.out]
      obtain⟨m',rfl⟩:∃m',m=m'+1:=⟨m-1,by omega⟩
      rw[qVr,if_neg (by simpa using he)]
      rfl)
     rw[show((sr.e:Nat):Int)=0 by rw [he];rfl]
     clear hE
     have ewm:IntKind.u64.wrap ((m:Int)-1)=(m:Int)-1:=by rw [IntKind.wrap_u64];omega
     go_wp2_with fail
     refine(qKZ rg RD0 sr 1 (by omega) wp RDX.out).mono ?_
     rintro e w2 ⟨rfl,hrd,hg⟩
     obtain⟨na,hna⟩:∃na,na=(numS sr 1).2:=⟨_,rfl⟩
     rw[←hna]
     have NA:=Lh (show na≤255 by rw [hna];exact numS_one _)
     have NAE:=Lh hna
     have ena:IntKind.i64.wrap (na:Int)=(na:Int):=by rw [IntKind.wrap_i64];have:=NA.out;omega
     have O:=Lh (O.out.grown hg (.inr (fun e=>by have:=(O.out.lt rg e).1;have:=RG13.out;omega)))
     have RDX:=Lh (show Rdr rg RD0 (numS sr 1).1 w2 from hrd)
     have BX:=Lh (qQo BX.out hg GL.out.1)
     have BY:=Lh (qQo BY.out hg GL.out.2)
     have SZX:=Lh (kQk SZX.out hg.size)
     clear hrd hg hna
     go_wp2_with fail
     refine(qKZ rg RD0 (numS sr 1).1 1 (by omega) w2 RDX.out).mono ?_
     rintro e w3' ⟨rfl,hrd,hg⟩
     obtain⟨no,hno⟩:∃no,no=(numS (numS sr 1).1 1).2:=⟨_,rfl⟩
     rw[←hno]
     have NOE:=Lh hno
     obtain⟨qq,hqq⟩:∃qq:Bool,qq=decide (no=1):=⟨_,rfl⟩
     have dq:((no:Int)==1)=qq:=by
      rw[hqq]
      by_cases h:no=1
      ·subst h;rfl
      ·rw [decide_eq_false h];simp;omega
     have QE:=Lh hqq
     have O:=Lh (O.out.grown hg (.inr (fun e=>by have:=(O.out.lt rg e).1;have:=RG13.out;omega)))
     have RDX:=Lh (show Rdr rg RD0 (numS (numS sr 1).1 1).1 w3' from hrd)
     have BX:=Lh (qQo BX.out hg GL.out.1)
     have BY:=Lh (qQo BY.out hg GL.out.2)
     have SZX:=Lh (kQk SZX.out hg.size)
     clear hrd hg hno hqq
     have OKM0:=Lh (show OkM ⟨(na:Int),z32,qq⟩from⟨rfl,by show -9223372036854775808≤(na:Int);omega,by show(na:Int)≤9223372036854775807;have:=NA.out;omega⟩)
     have SZ0:=Lh (show(34:Nat)=(RowM ⟨(na:Int),z32,qq⟩).toArray.size by rw [List.size_toArray,qQ7 OKM0.out])
     have IM0:=Lh (show(Tryz.prog.info? 63).map (·.size)=some (RowM ⟨(na:Int),z32,qq⟩).toArray.size by rw [←SZ0.out];exact qZC)
     go_upto_region 12 with (first|(refine qQa rfl (run_memQ (.tmp 43) (.tmp 46) rfl (na:Int) qq rfl rfl _) ?_)|(refine qQp rfl rfl 63 (.tmp 13) (.tmp 47) rfl (RowM ⟨(na:Int),z32,qq⟩).toArray rfl rfl IM0.out SZ0.out (qVK _) ?_))
     clear dq ena
     generalize hM13:Array.size (World.heap w3')=M13
     generalize hw4:World.alloc w3' _=w4
     have B4:=Lh (show Below w3'.heap.size w3' w4.drew by rw [←hw4];exact(qQh _ _).drew)
     have R13:=Lh (show w4.drew.heap[M13]?=some (.cells (RowM ⟨(na:Int),z32,qq⟩).toArray 63 (0,0)) by rw [←hw4];exact qQk _ _ _ hM13.symm)
     have M13L:=Lh (show rg<M13∧RD0<M13∧w.heap.size≤M13∧w11.heap.size≤M13∧w13.heap.size≤M13 by have:=RDX.out.lt;have:=RDL13.out;have:=SZX.out;have:=GL.out;have:=BW13.out.size;have:=B13.out.size;omega)
     have OM:=Lh (show ∀q,_=some q→q<M13 from fun q e=>by have:=(O.out.lt q e).2;omega)
     have O:=Lh (O.out.below B4.out)
     have RDX:=Lh (RDX.out.keep B4.out)
     have BX:=Lh (BX.out.trans (B4.out.mono BX.out.size))
     have BY:=Lh (BY.out.trans (B4.out.mono BY.out.size))
     have SZX:=Lh (kQk SZX.out B4.out.size)
     clear hM13 hw4 B4
     refine qQu (fun _=>True) [(true,0),(true,1),(true,2),(false,3),(false,4)] (by kernel_rfl) (by kernel_rfl) (fun _ _ d _ _ h=>by cases d<;>exact h) ?_
     simp only [kQl,kQm,kQd,kQg,kQe,kQo]
     generalize World.drew w4=wd at R13 O RDX BX BY SZX ⊢
     refine qQc (by rfl) (trivial) (fun W hW=>by go_simp;rfl) ?_
     simp only [Act.put,pq1,pq2,pq3]
     refine qQc (by rfl) (trivial) (fun W hW=>qZA 38 (.tmp 48) rfl 32 5 Tryz.underlying38 rfl M13 1 rfl W) ?_
     simp only [Act.put,pq1,pq2,pq3]
     refine qQc (by rfl) (trivial) (fun W hW=>by go_simp;rfl) ?_
     simp only [Act.put,pq1,pq2,pq3]
     refine qQE (by rfl) (fun K hK=>?_)
     go_simp
     refine(raw_any rg RD0 (numS (numS sr 1).1 1).1 32 wd RDX.out).mono ?_
     rintro e w5 ⟨⟨v5,rfl,ho5⟩,hrd,hg⟩
     obtain⟨x2,hx2⟩:∃x,x=(qZD (numS (numS sr 1).1 1).1 32).2.1:=⟨_,rfl⟩
     have X2:=Lh hx2
     have X2L:=Lh (show x2.length≤32 by rw [hx2];exact qVH _ _ 32 (by omega))
     have ho5:OwnB w5 wd.heap.size v5 x2:=by rw [hx2];exact ho5
     obtain⟨A5,c5,rfl,hr5,_,_,_⟩:=ho5.read
     have RX2:=Lh hr5
     have R13:=Lh (qQd hg (fun e=>by have:=Option.some.inj e;have:=M13L.out;omega) R13.out)
     have O:=Lh (O.out.grown hg (.inr (fun e=>by have:=(O.out.lt rg e).1;have:=RG13.out;omega)))
     have RDX:=Lh (show Rdr rg RD0 (qZD (numS (numS sr 1).1 1).1 32).1 w5 from hrd)
     have BX:=Lh (qQo BX.out hg GL.out.1)
     have BY:=Lh (qQo BY.out hg GL.out.2)
     have SZX:=Lh (kQk SZX.out hg.size)
     clear ho5 hrd hg hx2 hr5
     refine hK.out _ _ (trivial) ?_
     clear hK K
     refine qQE (by rfl) (fun K hK=>?_)
     refine qJI TB.out (.tmp 49) (.tmp 51) rfl M13 1 32 32 A5 x2.length c5 rfl rfl (RowM ⟨(na:Int),z32,qq⟩).toArray 63 R13.out x2 rfl RX2.out x2.length (Nat.min_eq_left X2L.out).symm (by rw [←SZ0.out];have:=X2L.out;omega) ?_
     rw[List.take_length,rowM_fit _ rfl x2 X2L.out]
     intro w6 hr6 hg _
     obtain⟨zn,hzn⟩:∃zn:Mem,zn=⟨(na:Int),fitK x2,qq⟩:=⟨_,rfl⟩
     have R13:=Lh (show w6.heap[M13]?=some (.cells (RowM zn).toArray 63 (0,0)) by rw [hzn];exact hr6)
     have ZNO:=Lh (show OkM zn by rw [hzn];exact⟨qWg _ X2L.out,OKM0.out.2⟩)
     have MEZ:=Lh (show qZZ t=(zs++[zn])++qVr (m-1) (qZD (numS (numS sr 1).1 1).1 32).1 by rw [ME.out,hzn,X2.out,NAE.out,QE.out,NOE.out];simp)
     have O:=Lh (O.out.grown hg (.inr (fun e=>by have:=OM.out M13 e;omega)))
     have RDX:=Lh (RDX.out.far hg (fun q e=>by cases e;have:=M13L.out;omega))
     have BX:=Lh (qQo BX.out hg M13L.out.2.2.1)
     have BY:=Lh (qQo BY.out hg M13L.out.2.2.2.1)
     have SZX:=Lh (kQk SZX.out hg.size)
     clear hr6 hg hzn
     refine hK.out _ _ (trivial) ?_
     clear hK K
     refine qQG ?_
     go_upto_region 13 with fail
     refine wp_region_list ?_
     simp only [kQf]
     refine qQa (by rfl) (by go_simp;rfl) ?_
     simp only [Act.put,pq1,pq2,pq3]
     refine qQa (by rfl) (qQI 63 (.tmp 13) rfl M13 0 rfl (RowM zn) (qQ5 R13.out) Tryz.underlying63 rfl (by rw [qQ7 ZNO.out];exact qZC)) ?_
     simp only [Act.put,pq1,pq2,pq3]
     refine qQs (by rfl) (fun K hK=>?_)
     refine wp_mems1 (.tmp 54) zn ZNO.out rfl rfl ?_
     generalize hB:Array.size (World.heap w6)=N5
     generalize hw:World.alloc w6 _=w7
     have B7:=Lh (show Below w6.heap.size w6 w7 by rw [←hw];exact qQh _ _)
     have RV7:=Lh (show RdV w7 (some ⟨N5,0,none⟩) (RowM zn)from fun j v hj=>⟨N5,0,rfl,qQ5 (show w7.heap[N5]?=some (.cells (RowM zn).toArray 63 (0,0)) by rw [←hw];exact qQk _ _ _ hB.symm) j v hj⟩)
     have O:=Lh (O.out.below B7.out)
     have RDX:=Lh (RDX.out.keep B7.out)
     have BX:=Lh (BX.out.trans (B7.out.mono BX.out.size))
     have BY:=Lh (BY.out.trans (B7.out.mono BY.out.size))
     have SZX:=Lh (kQk SZX.out B7.out.size)
     clear hB hw B7
     refine hK.out _ _ ?_
     clear hK K
     simp only [Act.put,pq1,pq2,pq3]
     refine appK_list rfl MemK (.tmp 53) (.tmp 55) rfl w13.heap.size _ zs.length (qJb zs) (RowM zn) (some ⟨N5,0,none⟩) 1 1 rfl rfl (by rw [qQ7 ZNO.out]) O.out RV7.out (by have h1:=rowsM_one [zn];simpa [qJb]using h1) SZX.out (by have:=ZL.out;omega) (by have:=ZL.out;omega) ?_
     intro v8 w8 ho hg _
     have O8:=Lh (show OwnK w8 w13.heap.size 63 34 v8 (zs++[zn]).length (qJb (zs++[zn])) by
      rw[kQj,rowsM_append]
      have h1:qJb [zn]=RowM zn:=by simp [qJb]
      rw[h1]
      exact ho)
     have RD8:=Lh (RDX.out.far hg (fun q e=>by have:=(O.out.lt q e).1;have:=RG13.out;have:=RDL13.out;omega))
     have BX8:=Lh (BX.out.trans (qQi hg BX.out.size (fun q e=>by have:=(O.out.lt q e).1;have:=BW13.out.size;omega)))
     have BY8:=Lh (BY.out.trans (qQi hg BY.out.size (fun q e=>by have:=(O.out.lt q e).1;have:=B13.out.size;omega)))
     have SZ8:=Lh (kQk SZX.out hg.size)
     have ZK8:=Lh (show ∀z∈zs++[zn],OkM z from fun z hz=>by
      rcases List.mem_append.1 hz with h|h
      ·exact ZK2.out z h
      ·simp only [List.mem_cons,List.mem_nil_iff,or_false]at h
       rw[h]
       exact ZNO.out)
     clear ho hg
     simp only [Act.put,pq1,pq2,pq3]
     go_wp2_with fail
     go_roundw
     case rel=>exact⟨m-1,_,zs++[zn],by omega,by first|go_num|(congr 1;omega),by have:=ZL.out;simp;omega,O8.out,ZK8.out,RD8.out,MEZ.out,BX8.out,BY8.out,SZ8.out⟩
     case measure=>simp [intOf];omega
    ·have hE:((sr.e:Int)==0)=false:=by simp [he]
     have ME:=Lh (show qZZ t=zs by
      rw[MX.out]
      obtain⟨m',rfl⟩:∃m',m=m'+1:=⟨m-1,by omega⟩
      rw[qVr,if_pos he,List.append_nil])
     go_upto_region 14 with fail
     obtain⟨_,Ar,cr,rfl,hrv,hcr,_,_⟩:=O.out.read
     have RM:=Lh (RdM.ofV ZK2.out hrv)
     have CR:=Lh hcr
     have ZB:=Lh (show zs.length≤255 by have:=ZL.out;omega)
     clear hrv hcr
     go_wp2_with fail
     refine(qVz wp Ar cr zs RM.out CR.out (by have:=ZB.out;omega)).mono ?_
     rintro e wq ⟨rfl,hb⟩
     have BQ:=Lh hb
     clear hb
     rcases hck:qZd zs with _|_
     ·have CF:=Lh hck
      rw[show chk zs=2 by rw [chk,hck];rfl]
      clear hck
      go_wp2_with fail
      go_ret2
      exact⟨.inr (.inl ⟨t,OP.out,by rw [ME.out,CF.out];rfl,rfl⟩),BX.out.trans (BQ.out.mono BX.out.size)⟩
     ·have CF:=Lh hck
      rw[show chk zs=0 by rw [chk,hck];rfl]
      clear hck
      have SP:=Lh (qZN CF.out)
      go_wp2_with fail
      refine(dir_any wq Ar cr zs (RM.out.keep BQ.out) SP.out.1 SP.out.2).mono ?_
      rintro e wr2 ⟨vd,rfl,ho,hb⟩
      obtain⟨Ax,cx,rfl,hrx,_,_,_⟩:=ho.read
      have RX:=Lh hrx
      have BR2:=Lh (BQ.out.trans (hb.mono BQ.out.size))
      clear ho hb hrx
      go_wp2_with fail
      refine(beq_any wr2 Ax At _ nt cx ct (dirL zs) t rfl NT.out RX.out (RT.out.keep (BY.out.trans (BR2.out.mono BY.out.size)))).mono ?_
      rintro e wx ⟨rfl,hw⟩
      rw[hw]
      clear hw wx
      rcases hdt:decide (dirL zs=t)with _|_
      ·have DF:=Lh hdt
       clear hdt
       go_wp2_with fail
       go_ret2
       exact⟨.inr (.inl ⟨t,OP.out,by rw [ME.out,CF.out,DF.out];rfl,rfl⟩),BX.out.trans (BR2.out.mono BX.out.size)⟩
      ·have DF:=Lh hdt
       clear hdt
       go_wp2_with fail
       go_ret2
       exact⟨.inr (.inr ⟨t,Ar,cr,OP.out,by rw [ME.out,CF.out,DF.out];rfl,by rw [ME.out];rfl,by rw [ME.out];exact RM.out.keep BR2.out,by rw [ME.out];exact CR.out⟩),BX.out.trans (BR2.out.mono BX.out.size)⟩
theorem qY5 (l:List UInt8) (n:Nat) (h0:0<n) (h:n≤l.length):qZD ⟨l,0⟩ (n:Int)=(⟨l.drop n,0⟩,l.take n,true):=by
 rw[qZD,if_neg (by simp;omega),if_neg (by simp;omega)]
 simp
end Go.Proofs.YtlocplkjokoknaaGreat
namespace Go.Proofs.YtlocplkjokoknaaGreat
open Go.RowKit
theorem qK0 (b:UInt8) (r:List UInt8):numS ⟨b::r,0⟩ 1=(⟨r,0⟩,b.toNat):=by
 have h:=qWG [b] r 1 (by omega) rfl
 rw[show((1:Nat):Int)=1 from rfl]at h
 rw[numS,show min (1:Int) 8=1 from rfl]
 show((qZD ⟨[b]++r,0⟩ 1).1,qXk (qZD ⟨[b]++r,0⟩ 1).2.1)=_
 rw[h]
 simp [qXk]
theorem qKs {n:Int} (h0:0≤n) (h1:n≤255):((numB n).toNat:Int)=n:=by
 rw[numB,UInt8.toNat_ofNat']
 omega
theorem parseL_dir (l:List Mem) (hl:∀z∈l,OkM z) (hn:∀z∈l,0≤z.n∧z.n≤255) (r:List UInt8):qVr l.length ⟨(l.map memL).flatten++r,0⟩=l:=by
 induction l with
 | nil=>rfl
 | cons z l ih=>
  have hk:=(hl z (by simp)).1
  have e0:((z::l).map memL).flatten++r=numB z.n::qJk z.o::(z.k++((l.map memL).flatten++r)):=by simp [memL,List.append_assoc]
  rw[List.length_cons,qVr,if_neg (by simp),e0,qK0]
  simp only
  rw[qK0]
  simp only
  have h2:=qWG z.k ((l.map memL).flatten++r) 32 (by omega) hk
  rw[show((32:Nat):Int)=32 from rfl]at h2
  rw[h2]
  simp only
  rw[qVv hk,ih (fun y hy=>hl y (by simp [hy])) (fun y hy=>hn y (by simp [hy])),qKs (hn z (by simp)).1 (hn z (by simp)).2]
  obtain⟨zn,zk,zo⟩:=z
  cases zo<;>rfl
theorem membersL_dir {l:List Mem} (h:qZd l=true) (hl:∀z∈l,OkM z):qZZ (dirL l)=l:=by
 obtain⟨h8,hn⟩:=qZN h
 have e0:dirL l=numB l.length::((l.map memL).flatten++kQc (273-(1+34*l.length)) 0):=by simp [dirL]
 rw[qZZ,e0,qK0]
 simp only
 have h1:(numB (l.length:Int)).toNat=l.length:=by
  have:=qKs (n:=(l.length:Int)) (by omega) (by omega)
  omega
 rw[h1]
 exact parseL_dir l hl hn _
def qW0 (q:RBx) (e:Ent):RBx×Option (List UInt8):=qX9 q e.key e.beside e.text
def entQ (y:Kys) (l:List Mem) (i:Nat) (q:RBx):RBx×Ent:=
 match l[i]? with
 | some z=>(q,⟨z.k,qZF,qXh y z.o⟩)
 | none=>({ q with u:=q.u+32 },⟨qQR q.F q.u 32,qZF,fullL⟩)
def qZz (y:Kys) (l:List Mem) (q:RBx):Nat→RBx×Option (List (List UInt8))
 | 0=>(q,some [])
 | i+1=>match (qZz y l q i).2 with
  | none=>((qZz y l q i).1,none)
  | some xs=>((qW0 (entQ y l i (qZz y l q i).1).1 (entQ y l i (qZz y l q i).1).2).1,(qW0 (entQ y l i (qZz y l q i).1).1 (entQ y l i (qZz y l q i).1).2).2.map fun x=>xs++[x])
def ringQ (y:Kys) (l:List Mem) (q:RBx):RBx×Option (List (List UInt8)×List UInt8):=
 match (qZz y l q 8).2 with
 | none=>((qZz y l q 8).1,none)
 | some xs=>((qW0 (qZz y l q 8).1 (dirE y l)).1,(qW0 (qZz y l q 8).1 (dirE y l)).2.map fun d=>(xs,d))
theorem qX6 {y:Kys} {l:List Mem} {q q1:RBx} {i:Nat} {xs:List (List UInt8)} (h:qZz y l q i=(q1,some xs)) :
  qZz y l q (i+1)=((qW0 (entQ y l i q1).1 (entQ y l i q1).2).1,(qW0 (entQ y l i q1).1 (entQ y l i q1).2).2.map fun x=>xs++[x]):=by
 rw[qZz,h]
theorem qV7 {y:Kys} {l:List Mem} {q q1:RBx} {i:Nat} (h:qZz y l q i=(q1,none)) (k:Nat):qZz y l q (i+k)=(q1,none):=by
 induction k with
 | zero=>exact h
 | succ k ih=>rw [Nat.add_succ,qZz,ih]
theorem qYv {y:Kys} {l:List Mem} {q q1:RBx} {i:Nat} (h:qZz y l q i=(q1,none)) (hi:i≤8):ringQ y l q=(q1,none):=by
 have:=qV7 h (8-i)
 rw[Nat.add_sub_of_le hi]at this
 rw[ringQ,this]
theorem qJZ {y:Kys} {l:List Mem} {q q1:RBx} {xs:List (List UInt8)} (h:qZz y l q 8=(q1,some xs)):ringQ y l q=((qW0 q1 (dirE y l)).1,(qW0 q1 (dirE y l)).2.map fun d=>(xs,d)):=by
 rw[ringQ,h]
theorem rel_ent {y:Kys} {l:List Mem} {i:Nat} {s:BSt} {q:RBx} (h:RelB s q):(qXd y l i s).2=(entQ y l i q).2∧RelB (qXd y l i s).1 (entQ y l i q).1:=by
 unfold qXd entQ
 cases l[i]? with
 | some z=>exact⟨rfl,h⟩
 | none=>exact⟨by show(⟨_,_,_⟩:Ent)=⟨_,_,_⟩;rw [h.F,h.u],h.mode,h.F,by show s.u+32=q.u+32;rw [h.u],h.n,h.ideal,h.known⟩
theorem rel_wraps {y:Kys} {l:List Mem} {s s1:BSt} {q:RBx} {i:Nat} {xs:List (List UInt8)} (h:RelB s q) (hw:WrapsR y l s i s1 xs):∃q1,qZz y l q i=(q1,some xs)∧RelB s1 q1:=by
 induction hw with
 | zero=>exact⟨q,rfl,h⟩
 | @succ i s1 s2 xs x _ hs ih=>
  obtain⟨q1,h1,h2⟩:=ih
  obtain⟨h3,h4⟩:=@rel_ent y l i s1 q1 h2
  obtain⟨h5,h6⟩:=h4.sealed hs
  rw[h3]at h5 h6
  exact⟨_,(qX6 h1).trans (by rw [qW0,←h5];rfl),h6⟩
theorem rel_ring {y:Kys} {l:List Mem} {s s':BSt} {q:RBx} {r:Option (List (List UInt8)×List UInt8)} (h:RelB s q) (hw:qYn y l s s' r):∃q',ringQ y l q=(q',r)∧RelB s' q':=by
 rcases hw with ⟨i,s1,xs,hi,h1,h2,rfl⟩|⟨s1,xs,h1,h2,rfl⟩|⟨s1,xs,d,h1,h2,rfl⟩<;>obtain⟨q1,h3,h4⟩:=rel_wraps h h1
 ·obtain⟨h5,h6⟩:=@rel_ent y l i s1 q1 h4
  obtain⟨h7,h8⟩:=h6.sealed h2
  rw[h5]at h7 h8
  exact⟨_,qYv ((qX6 h3).trans (by rw [qW0,←h7];rfl)) (by omega),h8⟩
 ·obtain⟨h7,h8⟩:=h4.sealed h2
  exact⟨_,(qJZ h3).trans (by rw [qW0,←h7];rfl),h8⟩
 ·obtain⟨h7,h8⟩:=h4.sealed h2
  exact⟨_,(qJZ h3).trans (by rw [qW0,←h7];rfl),h8⟩
theorem idealR_bd (k bs t:List UInt8) (i:Nat) (q:RBx):(qXX k bs t i q).1.mode=q.mode∧(qXX k bs t i q).1.F=q.F∧(qXX k bs t i q).1.u≤q.u+i*(t.length+28)∧(qXX k bs t i q).1.L.length≤q.L.length+1:=by
 induction i generalizing q with
 | zero=>exact⟨rfl,rfl,by simp [qXX],by simp [qXX]⟩
 | succ i ih=>
  rw[qXX,Nat.succ_mul]
  split
  ·obtain⟨h1,h2,h3,h4⟩:=ih { q with u:=q.u+(t.length+28) }
   exact⟨h1,h2,by have h3:_≤q.u+(t.length+28)+_:=h3;omega,h4⟩
  ·exact⟨rfl,rfl,by show q.u+_≤_;omega,by simp⟩
theorem sealQ_bd (q:RBx) (e:Ent):(qW0 q e).1.mode=q.mode∧(qW0 q e).1.F=q.F∧(qW0 q e).1.u≤q.u+8*(e.text.length+28)∧(qW0 q e).1.L.length≤q.L.length+1:=by
 rw[qW0,qX9]
 split
 ·exact⟨rfl,rfl,by show q.u+12≤_;omega,by simp⟩
 ·exact idealR_bd _ _ _ _ _
theorem entQ_text {y:Kys} (hy:OkK y) {l:List Mem} {i:Nat} {q:RBx}:(entQ y l i q).2.text.length=73:=by
 unfold entQ
 split
 ·exact qWo hy _
 ·rfl
theorem entQ_key {y:Kys} {l:List Mem} (hl:∀z∈l,OkM z) {i:Nat} {q:RBx}:(entQ y l i q).2.key.length=32:=by
 unfold entQ
 split
 ·rename_i z hz
  exact(hl z (kQu hz)).1
 ·exact qQy _ _ _
theorem entQ_bd {y:Kys} {l:List Mem} {i:Nat} {q:RBx}:(entQ y l i q).2.beside=qZF∧(entQ y l i q).1.mode=q.mode∧(entQ y l i q).1.F=q.F∧(entQ y l i q).1.u≤q.u+32∧(entQ y l i q).1.L=q.L:=by
 unfold entQ
 split<;>simp
theorem wrapsQ_bd {y:Kys} (hy:OkK y) {l:List Mem} {q:RBx} (i:Nat):(qZz y l q i).1.mode=q.mode∧(qZz y l q i).1.F=q.F∧(qZz y l q i).1.u≤q.u+i*840∧(qZz y l q i).1.L.length≤q.L.length+i:=by
 induction i with
 | zero=>exact⟨rfl,rfl,by simp [qZz],by simp [qZz]⟩
 | succ i ih=>
  obtain⟨q1,hq⟩:∃q1,qZz y l q i=q1:=⟨_,rfl⟩
  rw[hq]at ih
  obtain⟨q1,_|xs⟩:=q1
  ·rw [qV7 hq 1]
   exact⟨ih.1,ih.2.1,by omega,by omega⟩
  ·rw [qX6 hq]
   have h1:=sealQ_bd (entQ y l i q1).1 (entQ y l i q1).2
   have h2:=@entQ_bd y l i q1
   rw[entQ_text hy,h2.2.1,h2.2.2.1,h2.2.2.2.2]at h1
   obtain⟨i1,i2,i3,i4⟩:=ih
   dsimp only at i1 i2 i3 i4 ⊢
   exact⟨h1.1.trans i1,h1.2.1.trans i2,by have:=h1.2.2.1;have:=h2.2.2.2.1;omega,by have:=h1.2.2.2;omega⟩
def qXW (s:List UInt8):Kys:=⟨UInt64.ofNat (qXk (s.take 8)),(s.drop 8).take 32,s.drop 41,decide ((s[40]?.getD 0)=1)⟩
theorem takeS_ge' (l:List UInt8) (n:Int) (m:Nat) (hm:n=m) (h0:0<m) (h:m≤l.length):qZD ⟨l,0⟩ n=(⟨l.drop m,0⟩,l.take m,true):=by
 rw[hm];exact qY5 l m h0 h
theorem numS_ge (l:List UInt8) (n:Nat) (h0:0<n) (h8:n≤8) (h:n≤l.length):numS ⟨l,0⟩ (n:Int)=(⟨l.drop n,0⟩,qXk (l.take n)):=by
 rw[numS,takeS_ge' l (min (n:Int) 8) n (by omega) h0 h]
theorem qJx {s:List UInt8} (h:s.length=73):qWf s=qXW s:=by
 have e1:qKj s=(⟨s.drop 8,0⟩,qXk (s.take 8)):=numS_ge s 8 (by omega) (by omega) (by omega)
 have e2:qVt s=(⟨s.drop 40,0⟩,(s.drop 8).take 32,true):=by
  rw[qVt,e1]
  exact(qY5 (s.drop 8) 32 (by omega) (by simp;omega)).trans (by rw [List.drop_drop])
 have e3:qJz s=(⟨s.drop 41,0⟩,qXk ((s.drop 40).take 1)):=by
  rw[qJz,e2]
  exact(numS_ge (s.drop 40) 1 (by omega) (by omega) (by simp;omega)).trans (by rw [List.drop_drop])
 have e4:qK6 s=(⟨(s.drop 41).drop 32,0⟩,(s.drop 41).take 32,true):=by
  rw[qK6,e3]
  exact qY5 (s.drop 41) 32 (by omega) (by simp;omega)
 have h1:(s.drop 41).take 32=s.drop 41:=kQn (by simp;omega)
 have h2:(s.drop 40).take 1=[s[40]]:=by
  rw[List.drop_eq_getElem_cons (by omega)];rfl
 rw[qWf,qXW,e1,e2,e3,e4,qVv (by simp;omega),h1,qVv (by simp;omega),h2]
 have h3:s[40]?.getD 0=s[40]:=by rw [kQi (by omega)];rfl
 have h4:qXk [s[40]]=s[40].toNat:=by simp [qXk]
 rw[h3,h4]
 congr 1
 exact decide_eq_decide.2 ⟨fun e=>UInt8.toNat_inj.1 e,fun e=>by rw [e];rfl⟩
theorem qJy (s:List UInt8):qXJ s=(decide (s.length=73)&&decide ((s[40]?.getD 0)≤1)&&decide (qXh (qXW s) (qXW s).w=s)):=by
 by_cases h:s.length=73
 ·rw [qXJ,qJx h,decide_eq_true h,Bool.true_and]
  by_cases h2:qXh (qXW s) (qXW s).w=s
  ·have ok:OkK (qXW s):=by rw [←qJx h];exact qWP s
   have h4:(qXh (qXW s) (qXW s).w)[40]?=some (if (qXW s).w then 1 else 0):=by
    rw[qXh,List.append_assoc,kQq (by simp [qZj,ok.1])]
    simp [qZj,ok.1]
   rw[h2]at h4
   have h3:s[40]?.getD 0≤1:=by
    rw[h4];cases (qXW s).w<;>decide
   rw[decide_eq_true h2,decide_eq_true h3];rfl
  ·rw [decide_eq_false h2,Bool.and_false]
 ·rw [decide_eq_false h,Bool.false_and,Bool.false_and,qXJ,decide_eq_false_iff_not]
  intro e
  exact h (by rw [←e];exact qWo (qWP s) _)
def qZQ (q:RBx) (k:List UInt8):List (List UInt8)→Kys×Int
 | []=>(kysZ,13)
 | x::xs=>match qXU q k qZF x with
  | none=>qZQ q k xs
  | some t=>if qXJ t then(qXW t,0)else qZQ q k xs
theorem qKb {q:RBx} {k x:List UInt8} {xs:List (List UInt8)} {j:Nat} (h:xs[j]?=some x):qZQ q k (xs.drop j)=(match qXU q k qZF x with|none=>qZQ q k (xs.drop (j+1))|some t=>if qXJ t then(qXW t,0)else qZQ q k (xs.drop (j+1))):=by
 obtain⟨hj,he⟩:=List.getElem?_eq_some_iff.1 h
 rw[List.drop_eq_getElem_cons hj,he]
 rfl
theorem unwrapQ_eq {s:BSt} {q:RBx} {k:List UInt8} (h:∀x,qXn s k qZF x=qXU q k qZF x) (xs:List (List UInt8)):qZn s k xs=qZQ q k xs:=by
 induction xs with
 | nil=>rfl
 | cons x xs ih=>
  rw[qZn,qZQ,h,ih]
  cases qXU q k qZF x with
  | none=>rfl
  | some t=>
   show(if qXJ t then(qWf t,0)else _)=(if qXJ t then(qXW t,0)else _)
   split
   ·rename_i hb
    rw[qJy]at hb
    simp only [Bool.and_eq_true,decide_eq_true_eq]at hb
    rw[qJx hb.1.1]
   ·rfl
theorem idealL_good (t:Nat) (s:BSt) (e:Ent) (x:List UInt8) (h:(qZf t s e).2=some x):qXV (qZf t s e).1.m x=some e:=by
 induction t generalizing s with
 | zero=>simp [qZf]at h
 | succ t ih=>
  rw[qZf]at h ⊢
  split at h
  ·rename_i hk
   rw[if_pos hk]
   exact ih _ h
  ·rename_i hk
   rw[if_neg hk]
   injection h with h
   rw[←h]
   exact qKi (by simpa using hk)
theorem qWH {s s':BSt} {e:Ent} {r:Option (List UInt8)} (hs:SealR s e s' r):(∀x,r=some x→GoodX s' e x)∧∀e' x',GoodX s e' x'→GoodX s' e' x':=by
 have hmode:=hs.mode.1
 rcases hs with ⟨h1,h2⟩|⟨h0,h1,h2,_⟩
 ·have e1:s'=(qZf 8 s e).1:=congrArg (·.1) h2
  have e2:r=(qZf 8 s e).2:=congrArg (·.2) h2
  refine⟨fun x hx=>.inr ⟨by rw [hmode];exact h1,by rw [e1];exact idealL_good 8 s e x (by rw [←e2];exact hx)⟩,fun e' x' hg=>?_⟩
  rcases hg with ⟨h0,_⟩|⟨_,hl⟩
  ·omega
  ·refine .inr ⟨by rw [hmode];exact h1,?_⟩
   rcases idealL_mm 8 s e with h3|⟨x,h3⟩<;>rw [e1,h3]
   ·exact hl
   ·exact lookM_old hl
 ·refine⟨fun x hx=>.inl ⟨h2,s,by rw [h1]at hx;exact(Option.some.inj hx).symm⟩,fun e' x' hg=>?_⟩
  rcases hg with ⟨_,hl⟩|⟨h8,_⟩
  ·exact .inl ⟨h2,hl⟩
  ·omega
theorem qV6 {y:Kys} {l:List Mem} {s s1:BSt} {i:Nat} {xs:List (List UInt8)} (h:WrapsR y l s i s1 xs) {e:Ent} {x:List UInt8} (hg:GoodX s e x):GoodX s1 e x:=by
 induction h with
 | zero=>exact hg
 | @succ i s1 s2 xs x _ hs ih=>
  refine(qWH hs).2 _ _ ?_
  have h2:=@qZM y l i s1
  rcases ih with ⟨h0,hl⟩|⟨h1,hl⟩
  ·exact .inl ⟨by rw [h2.1];exact h0,hl⟩
  ·exact .inr ⟨by rw [h2.1];exact h1,by rw [h2.2.2.2.2];exact hl⟩
theorem ring_goodX {y:Kys} {l:List Mem} {s s':BSt} {r:Option (List (List UInt8)×List UInt8)} (h:qYn y l s s' r):(∀xs d,r=some (xs,d)→GoodX s' (dirE y l) d)∧∀e x,GoodX s e x→GoodX s' e x:=by
 rcases h with ⟨i,s1,xs,hi,h1,h2,rfl⟩|⟨s1,xs,h1,h2,rfl⟩|⟨s1,xs,d,h1,h2,rfl⟩
 ·refine⟨fun _ _ e=>(by cases e),fun e x hg=>(qWH h2).2 _ _ ?_⟩
  have h3:=@qZM y l i s1
  rcases qV6 h1 hg with ⟨h0,hl⟩|⟨h4,hl⟩
  ·exact .inl ⟨by rw [h3.1];exact h0,hl⟩
  ·exact .inr ⟨by rw [h3.1];exact h4,by rw [h3.2.2.2.2];exact hl⟩
 ·exact⟨fun _ _ e=>(by cases e),fun e x hg=>(qWH h2).2 _ _ (qV6 h1 hg)⟩
 ·exact⟨fun _ _ e=>(by cases e;exact(qWH h2).1 _ rfl),fun e x hg=>(qWH h2).2 _ _ (qV6 h1 hg)⟩
def qZ3 (y:Kys) (l:List Mem) (q:RBx):RBx×Option (List (List UInt8)×List UInt8)×Int:=
 if qZd l then((ringQ y l q).1,(ringQ y l q).2,if (ringQ y l q).2.isSome then 0 else 15)else(q,none,2)
def qJC (q:RBx) (ep:UInt64):Kys:=⟨ep,qQR q.F q.u 32,qQR q.F (q.u+32) 32,true⟩
def qJ6 (ep:UInt64) (l:List Mem) (q:RBx):RBx×Option (List (List UInt8)×List UInt8)×Int:=
 if qZd l then qZ3 (qJC q ep) l { q with u:=q.u+64 } else(q,none,2)
def kysE:Kys:=⟨0,[],[],false⟩
end Go.Proofs.YtlocplkjokoknaaGreat
namespace Go.Proofs.YtlocplkjokoknaaGreat
open Go.RowKit
attribute [local go_sem ↓] Go.wp_at_zero Go.wp_at_succ
theorem qYt (k:Int) (n:Nat) (hk:k=n) (hn:n≤1000) (w:World):Calls Tryz.prog 56 #[.int .i64 k] w fun e w'=>e=.returned (.string (strB (kQc n 0)))∧w'=w:=by
 subst hk
 have HN:=Lh hn
 have nb:(n:Int)≤1000:=by omega
 clear hn
 go_enter Tryz.func56,Tryz.ntmps56
 go_wp2_with fail
 go_loopw [3,4] (fun s i wr=>∃j:Nat,j≤n∧s=.string (strB (kQc j 0))∧i=.int .i64 (j:Int)∧wr=w) (fun _ i _=>n-(intOf i).toNat)
 case atStart=>exact⟨0,by omega,rfl,rfl,rfl⟩
 case round=>
  obtain⟨j,hj,rfl,rfl,hwr⟩:=hrel
  rw[hwr]
  have J:=Lh hj
  obtain⟨s,hs⟩:∃s:List UInt8,s=kQc j 0:=⟨_,rfl⟩
  rw[←hs]
  have SE:=Lh hs
  clear hwr hj hs
  by_cases hlt:j<n
  ·have hD:decide ((j:Int)<(n:Int))=true:=by simp;omega
   have LT:=Lh hlt
   clear hlt
   go_wp2_with (refine qQa rfl (qQW 9 _ (.tmp 10) (.const (.string ⟨#[0]⟩)) rfl s [0] rfl rfl (by rw [SE.out];have:=LT.out;have:=HN.out;simp;omega) _) ?_)
   go_roundw
   case rel=>exact⟨j+1,LT.out,by rw [SE.out,←List.replicate_succ'],by go_num,trivial⟩
   case measure=>have:=LT.out;simp [intOf];omega
  ·have hD:decide ((j:Int)<(n:Int))=false:=by simp;omega
   have JE:=Lh (show j=n by have:=J.out;omega)
   go_wp2_with fail
   go_ret
   exact⟨by rw [SE.out,JE.out];rfl,rfl⟩
theorem full_any (w:World):Calls Tryz.prog 32 #[.int .i64 73] w fun e w'=>e=.returned (.string (strB fullL))∧w'=w:=by
 go_enter Tryz.func32,Tryz.ntmps32
 go_wp2_with fail
 go_loopw [3,4] (fun s i wr=>∃j:Nat,j≤73∧s=.string (strB (kQc j 255))∧i=.int .i64 (j:Int)∧wr=w) (fun _ i _=>73-(intOf i).toNat)
 case atStart=>exact⟨0,by omega,rfl,rfl,rfl⟩
 case round=>
  obtain⟨j,hj,rfl,rfl,hwr⟩:=hrel
  rw[hwr]
  have J:=Lh hj
  obtain⟨s,hs⟩:∃s:List UInt8,s=kQc j 255:=⟨_,rfl⟩
  rw[←hs]
  have SE:=Lh hs
  clear hwr hj hs
  by_cases hlt:j<73
  ·have hD:decide ((j:Int)<73)=true:=by simp;omega
   have LT:=Lh hlt
   have jb:(j:Int)<73:=by omega
   clear hlt
   go_wp2_with (refine qQa rfl (qQW 9 _ (.tmp 10) (.const (.string ⟨#[255]⟩)) rfl s [255] rfl rfl (by rw [SE.out];have:=LT.out;simp;omega) _) ?_)
   go_roundw
   case rel=>exact⟨j+1,LT.out,by rw [SE.out,←List.replicate_succ'],by go_num,trivial⟩
   case measure=>have:=LT.out;simp [intOf];omega
  ·have hD:decide ((j:Int)<73)=false:=by simp;omega
   have JE:=Lh (show j=73 by have:=J.out;omega)
   go_wp2_with fail
   go_ret
   exact⟨by rw [SE.out,JE.out];rfl,rfl⟩
theorem qKP (o:Bool) (w:World):Calls Tryz.prog 55 #[.bool o] w fun e w'=>e=.returned (.string (strB [qJk o]))∧w'=w:=by
 cases o <;>
 ·go_enter Tryz.func55,Tryz.ntmps55
  go_wp2_with fail
  go_ret
  exact⟨rfl,rfl⟩
def RowQ (y:Kys):Array Value:=#[.int .u64 (y.e.toNat:Int),.string (strB y.k),.string (strB y.o),.bool y.w]
theorem qZH (y:Kys):(Tryz.prog.info? 47).map (·.size)=some (RowQ y).size:=by rw [show(RowQ y).size=4 from rfl];kernel_rfl
theorem qX0 (y:Kys):(RowQ y).all (·.oneCell')=true:=by simp [RowQ,Value.oneCell']
theorem rtext_any (w:World) (y:Kys) (hy:OkK y) (o:Bool):Calls Tryz.prog 33 #[.agg (RowQ y),.bool o] w fun e w'=>e=.returned (.string (strB (qXh y o)))∧Below w.heap.size w w':=by
 have HY:=Lh hy
 obtain⟨cs,hcs⟩:∃cs,cs=RowQ y:=⟨_,rfl⟩
 rw[←hcs]
 have CE:=Lh hcs
 clear hy hcs
 go_enter Tryz.func33,Tryz.ntmps33
 go_upto_region 1 with fail
 generalize hM:Array.size (World.heap w)=M
 generalize hw1:World.alloc w _=w1
 have R1:=Lh (show w1.heap[M]?=some (.cells cs 47 (0,0)) by rw [←hw1];exact qQk _ _ _ hM.symm)
 have B1:=Lh (show Below w.heap.size w w1 by rw [←hw1];exact qQh _ _)
 have Z:=Lh (show Below w1.heap.size w1 w1.drew from(Below.refl _ _).drew)
 have C1:=Lh (show cs[1]?=some (.string (strB y.k)) by rw [CE.out];rfl)
 have C2:=Lh (show cs[2]?=some (.string (strB y.o)) by rw [CE.out];rfl)
 clear hw1 hM
 refine qQu (fun W=>Below w1.heap.size w1 W) [(true,0),(true,1),(true,3),(true,4),(true,6),(false,2),(true,5),(false,7),(true,8),(true,9)] (by kernel_rfl) (by kernel_rfl) (fun _ _ d _ _ h=>by cases d<;>exact h) ?_
 simp only [kQl,kQm,kQd,kQg,kQe,kQo]
 refine qQc (by rfl) Z.out (fun W hW=>by go_simp;rfl) ?_
 simp only [Act.put,pq1,pq2,pq3]
 refine qQc (by rfl) Z.out (fun W hW=>qQq 36 (.tmp 6) rfl _ Tryz.underlying36 rfl rfl (qQg (qQb hW (qQe R1.out) R1.out) 0 (show cs[0]?=some (.int .u64 (y.e.toNat:Int)) by rw [CE.out];rfl))) ?_
 simp only [Act.put,pq1,pq2,pq3]
 refine qQc (by rfl) Z.out (fun W hW=>by go_simp;rfl) ?_
 simp only [Act.put,pq1,pq2,pq3]
 refine qQc (by rfl) Z.out (fun W hW=>qQq 9 (.tmp 9) rfl _ Tryz.underlying9 rfl rfl (qQg (qQb hW (qQe R1.out) R1.out) 1 C1.out)) ?_
 simp only [Act.put,pq1,pq2,pq3]
 refine qQc (by rfl) Z.out (fun W hW=>by go_simp;rfl) ?_
 simp only [Act.put,pq1,pq2,pq3]
 refine qQE (by rfl) (fun K hK=>?_)
 go_simp
 refine(rput_any [] y.e 8 (by omega) (by simp) w1.drew).mono ?_
 rintro e w2 ⟨rfl,hb⟩
 rw[show([]:List UInt8)++beL (putN 8) y.e.toNat=beL 8 y.e.toNat from rfl]
 obtain⟨p,hp⟩:∃p,p=beL 8 y.e.toNat:=⟨_,rfl⟩
 have PE:=Lh hp
 have PL:=Lh (show p.length=8 by rw [hp,qZj])
 rw[←hp]
 have Z:=Lh (show Below w1.heap.size w1 w2 from Z.out.trans (hb.mono Z.out.size))
 clear hb hp
 refine hK.out _ _ Z.out ?_
 clear hK K
 refine qQc (by rfl) Z.out (fun W hW=>qQW 9 _ (.tmp 8) (.tmp 10) rfl p y.k rfl rfl (by rw [PL.out,HY.out.1];omega) W) ?_
 simp only [Act.put,pq1,pq2,pq3]
 refine qQE (by rfl) (fun K hK=>?_)
 go_simp
 refine(qKP o w2).mono ?_
 rintro e w3 ⟨rfl,hw⟩
 rw[hw]
 clear hw w3
 refine hK.out _ _ Z.out ?_
 clear hK K
 refine qQc (by rfl) Z.out (fun W hW=>qQW 9 _ (.tmp 11) (.tmp 13) rfl (p++y.k) [qJk o] rfl rfl (by rw [kQj,PL.out,HY.out.1];simp) W) ?_
 simp only [Act.put,pq1,pq2,pq3]
 refine qQc (by rfl) Z.out (fun W hW=>by go_simp;rfl) ?_
 simp only [Act.put,pq1,pq2,pq3]
 refine qQG ?_
 have R2:=Lh (qQb Z.out (qQe R1.out) R1.out)
 have BW:=Lh (show Below w.heap.size w w2 from B1.out.trans (Z.out.mono B1.out.size))
 have LL:=Lh (show(p++(y.k++[qJk o])).length=41 by simp [PL.out,HY.out.1])
 have TE:=Lh (show qXh y o=p++(y.k++[qJk o])++(if o then y.o else z32) by rw [PE.out,←List.append_assoc];rfl)
 obtain⟨s,hs⟩:∃s,s=p++(y.k++[qJk o]):=⟨_,rfl⟩
 rw[←hs]at LL TE ⊢
 clear hs
 cases o
 ·go_wp2_with fail
  refine(qYt 32 32 rfl (by omega) w2).mono ?_
  rintro e w4 ⟨rfl,hw⟩
  rw[hw]
  clear hw w4
  go_wp2_with (refine qQa rfl (qQW 9 _ (.tmp 20) (.tmp 21) rfl s z32 rfl rfl (by rw [LL.out];decide) _) ?_)
  go_ret
  exact⟨by rw [TE.out];rfl,BW.out⟩
 ·go_wp2_with (first
   | (refine qQa rfl (qQq 9 (.tmp 17) rfl _ Tryz.underlying9 rfl rfl (qQg R2.out 2 C2.out)) ?_)
   | (refine qQa rfl (qQW 9 _ (.tmp 16) (.tmp 18) rfl s y.o rfl rfl (by rw [LL.out,HY.out.2];decide) _) ?_))
  go_ret
  exact⟨by rw [TE.out];rfl,BW.out⟩
end Go.Proofs.YtlocplkjokoknaaGreat
