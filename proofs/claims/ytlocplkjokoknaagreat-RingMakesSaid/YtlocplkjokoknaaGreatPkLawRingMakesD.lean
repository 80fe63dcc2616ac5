/- Part 4 of what the law LawRingMakes needs. No condition but those each theorem states. -/
import Derived.Deep.MidRow
import Derived.Laws.Externs
import Derived.Laws.IdiomCopy
import Derived.Laws.ResultCell
import Derived.Lib.AppendZerosOnto
import Derived.Lib.MakeNoZero
import Derived.Lib.SlBytesConst
import Derived.Test.YtlocplkjokoknaaGreatPkLawRingMakesC
set_option linter.unusedVariables false
set_option linter.unusedSimpArgs false
set_option maxHeartbeats 32000000
set_option maxRecDepth 100000
open List renaming getD_eq_getElem?_getD → kQa, replicate → kQc, getElem?_toArray → kQd, getElem?_cons_succ → kQe, toList_toArray → kQf, getElem?_cons_zero → kQg, getElem?_eq_getElem → kQi, length_append → kQj, filterMap_cons → kQl, filterMap_nil → kQm, take_of_length_le → kQn, length_take → kQp, getElem?_append_right → kQq, map_toArray → kQs, drop_of_length_le → kQt, mem_of_getElem? → kQu, length_drop → kQv, map_cons → kQw
open Nat renaming lt_of_lt_of_le → kQb, le_refl → kQh, le_trans → kQk, eq_of_beq_eq_true → kQr
open Option renaming map_some → kQo
namespace Go.Proofs.YtlocplkjokoknaaGreat
open Go.RowKit
attribute [local go_sem ↓] Go.wp_at_zero Go.wp_at_succ
structure RkbW (w:World) (s:List UInt32) (W:World):Prop where
 bz:W.heap[w.heap.size]?=some (.cells (W8 (kQc 64 0)) 179 (0,0))
 bs:W.heap[w.heap.size+1]?=some (.cells (W32 s) 209 (0,0))
 bel:Below w.heap.size w W
theorem RkbW.lt {w W:World} {s:List UInt32} (h:RkbW w s W):w.heap.size+1<W.heap.size:=qQe h.bs
theorem RkbW.set {w W:World} {s:List UInt32} (h:RkbW w s W) (i:Nat) (x:UInt32):RkbW w (s.set i x) (W.setCell ⟨w.heap.size+1,i,none⟩ (.int .u32 (x.toNat:Int))) where
 bz:=qQd (qQF (World.grownBy.refl _ _) _ _) (by simp) h.bz
 bs:=by rw [heap_setCell_same _ _ _ _ _ _ h.bs,qVD]
 bel:=h.bel.trans (qQi (qQF (World.grownBy.refl W (some (w.heap.size+1))) _ _) (Nat.le_of_lt (qQe h.bz)) (by rintro g ⟨⟩;omega))
theorem RkbW.grown {w W W':World} {s:List UInt32} {M:Nat} (h:RkbW w s W) (h':W.grownBy W' (some M)) (hM:w.heap.size+1<M):RkbW w s W' where
 bz:=qQd h' (by simp;omega) h.bz
 bs:=qQd h' (by simp;omega) h.bs
 bel:=h.bel.trans (qQi h' (Nat.le_of_lt (qQe h.bz)) (by rintro g ⟨⟩;omega))
theorem RkbW.keep {w W W':World} {s:List UInt32} (h:RkbW w s W) (h':Below W.heap.size W W'):RkbW w s W' where
 bz:=qQb h' (qQe h.bz) h.bz
 bs:=qQb h' (qQe h.bs) h.bs
 bel:=h.bel.trans (h'.mono (Nat.le_of_lt (qQe h.bz)))
theorem rb_start (w:World):RkbW w headL ((w.alloc (.cells (W8 (kQc 64 0)) 179)).alloc (.cells (W32 headL) 209)) where
 bz:=qQM _ _ _ (by simp) (qQk _ _ _ rfl)
 bs:=qQk _ _ _ (by simp)
 bel:=((Below.refl _ _).alloc (kQh _) _).alloc (by simp) _
theorem dblN_succ (s:List UInt32) (j:Nat):dblN s (j+1)=qZa (qZa (qZa (qZa (qZa (qZa (qZa (qZa (dblN s j) 0 4 8 12) 1 5 9 13) 2 6 10 14) 3 7 11 15) 0 5 10 15) 1 6 11 12) 2 7 8 13) 3 4 9 14:=rfl
theorem qKg (k n:List UInt8) (hk:k.length=32) (hn:n.length=12) (count:UInt32) (w:World) :
  Calls Tryz.prog 98 #[.string (strB k),.string (strB n),.int .u32 (count.toNat:Int)] w fun e w'=>e=.returned (.agg (W8 (qXK k n count)))∧Below w.heap.size w w':=by
 have HK:=Lh hk
 have HN:=Lh hn
 have ZH:=Lh (show(Tryz.prog.info? 209).map (·.size)=some (W32 headL).size by kernel_rfl)
 clear hk hn
 go_enter Tryz.func98,Tryz.ntmps98
 go_wp2_with (refine qQp rfl rfl 209 (.tmp 7) (.tmp 14) rfl (W32 headL) rfl rfl ZH.out rfl (qZt _) ?_)
 refine qZ1 (fun W=>RkbW w headL W) (rb_start w) ?_
 intro w1 H1'
 have H1:=Lh H1'
 have L1:=Lh (H1'.lt)
 clear H1'
 go_loopw [8] (fun i wr=>∃j:Nat,j≤8∧i=.int .i64 (j:Int)∧RkbW w (qWk headL 4 k j) wr) (fun i _=>8-(intOf i).toNat)
 case atStart=>exact⟨0,by omega,rfl,H1.out⟩
 case round=>
  obtain⟨j,hj,rfl,H2'⟩:=hrel
  have H2:=Lh H2'
  clear H2' H1 L1 w1
  by_cases hlt:j<8
  ·have hD:decide ((j:Int)<8)=true:=by simp;omega
   go_wp2_with fail
   refine(word_any k j _ (by rw [HK.out];omega) (by omega)).mono ?_
   rintro e w3 ⟨rfl,rfl⟩
   have a1:=qQg H2.out.bs (4+j) (qQZ _ _ (by rw [qXv];simp [headL];omega))
   have a2:=qQz H2.out.bs (4+j)
   have b1:(4+(j:Int))<16:=by omega
   obtain⟨x,hx⟩:∃x,x=wordL k j:=⟨_,rfl⟩
   rw[←hx]
   have HX:=Lh hx
   clear hx
   replace a1:wr.drew.cell? ⟨w.heap.size+1,4+j,none⟩=_:=a1
   replace a2:wr.drew.frozen? ⟨w.heap.size+1,4+j,none⟩=_:=a2
   have H3:Hid (RkbW w (qWk headL 4 k j) wr.drew):=H2.out.keep ((Below.refl _ _).drew)
   obtain⟨w4,hw4⟩:∃w4,w4=wr.drew:=⟨_,rfl⟩
   rw[←hw4]at a1 a2 H3 ⊢
   clear hw4
   go_wp2_with fail
   go_roundw
   case rel=>
    refine⟨j+1,by omega,by go_num,?_⟩
    rw[qWk,←HX.out]
    exact H3.out.set (4+j) x
   case measure=>simp [intOf];omega
  ·have hj8:Hid (j=8):=show j=8 by omega
   have hD:decide ((j:Int)<8)=false:=by simp;omega
   have a2:=qQz H2.out.bs 12
   have a1:=qQg H2.out.bs 12 (qQZ _ _ (by rw [qXv];simp [headL]))
   go_upto_region 7 with fail
   refine qZ1 (fun W=>RkbW w ((qWk headL 4 k 8).set 12 count) W) (by rw [hj8.out]at H2;exact H2.out.set 12 count) ?_
   clear a1 a2 H2 hD hj hlt wr
   intro w1 H1'
   have H1:=Lh H1'
   clear H1'
   obtain⟨s0,hs0⟩:∃s,s=(qWk headL 4 k 8).set 12 count:=⟨_,rfl⟩
   rw[←hs0]at H1
   have S0:=Lh hs0
   have SL:=Lh (show s0.length=16 by rw [hs0];simp [qXv,headL])
   clear hs0
   go_wp2_with fail
   go_loopw [9] (fun i wr=>∃j:Nat,j≤3∧i=.int .i64 (j:Int)∧RkbW w (qWk s0 13 n j) wr) (fun i _=>3-(intOf i).toNat)
   case atStart=>exact⟨0,by omega,rfl,H1.out⟩
   case round=>
    obtain⟨j,hj,rfl,H2'⟩:=hrel
    have H2:=Lh H2'
    clear H2' H1 w1
    by_cases hlt:j<3
    ·have hD:decide ((j:Int)<3)=true:=by simp;omega
     go_wp2_with fail
     refine(word_any n j _ (by rw [HN.out];omega) (by omega)).mono ?_
     rintro e w3 ⟨rfl,rfl⟩
     have a1:=qQg H2.out.bs (13+j) (qQZ _ _ (by rw [qXv,SL.out];omega))
     have a2:=qQz H2.out.bs (13+j)
     have b1:(13+(j:Int))<16:=by omega
     obtain⟨x,hx⟩:∃x,x=wordL n j:=⟨_,rfl⟩
     rw[←hx]
     have HX:=Lh hx
     clear hx
     replace a1:wr.drew.cell? ⟨w.heap.size+1,13+j,none⟩=_:=a1
     replace a2:wr.drew.frozen? ⟨w.heap.size+1,13+j,none⟩=_:=a2
     have H3:Hid (RkbW w (qWk s0 13 n j) wr.drew):=H2.out.keep ((Below.refl _ _).drew)
     obtain⟨w4,hw4⟩:∃w4,w4=wr.drew:=⟨_,rfl⟩
     rw[←hw4]at a1 a2 H3 ⊢
     clear hw4
     go_wp2_with fail
     go_roundw
     case rel=>
      refine⟨j+1,by omega,by go_num,?_⟩
      rw[qWk,←HX.out]
      exact H3.out.set (13+j) x
     case measure=>simp [intOf];omega
    ·have hj3:Hid (j=3):=show j=3 by omega
     have hD:decide ((j:Int)<3)=false:=by simp;omega
     obtain⟨s,hs⟩:∃s,s=qWl k n count:=⟨_,rfl⟩
     have ES:=Lh hs
     have H3:Hid (RkbW w s wr):=by
      have:=H2.out
      rw[hj3.out,S0.out]at this
      show RkbW w s wr
      rw[hs,←refInit_eq]
      exact this
     have HS:=Lh (show s.length=16 by rw [hs,qXx])
     have Z:=Lh (show(Tryz.prog.info? 209).map (·.size)=some (W32 s).size by rw [qQA,HS.out];kernel_rfl)
     clear hs H2 S0 SL
     go_upto_region 12 with (first
      | (refine wpList_load_row rfl 209 (.tmp 7) rfl (w.heap.size+1) rfl 209 (W32 s) (0,0) _ H3.out.bs Tryz.underlying209 rfl Z.out ?_)
      | (refine qQp rfl rfl 209 (.tmp 10) (.tmp 37) rfl (W32 s) rfl rfl Z.out (by rw [qQA,HS.out];rfl) (qZt _) ?_))
     clear Z hD hj hlt
     obtain⟨M,hM⟩:∃M,M=wr.heap.size:=⟨_,rfl⟩
     have hMl:w.heap.size+1<M:=by rw [hM];exact H3.out.lt
     refine qZ1 (fun W=>RkbW w s W∧W.heap[M]?=some (.cells (W32 s) 209 (0,0))) ⟨H3.out.keep ((Below.refl _ _).alloc (kQh _) _),qQk _ _ _ hM⟩ ?_
     rw[←hM]
     clear hM
     have HM:=Lh hMl
     clear hMl
     rintro w4 ⟨H4',S4'⟩
     have H4:=Lh H4'
     have S4:=Lh S4'
     clear H4' S4' H3 wr
     go_wp2_with fail
     go_loopw [11] (fun i wr=>∃j:Nat,j≤10∧i=.int .i64 (j:Int)∧RkbW w s wr∧wr.heap[M]?=some (.cells (W32 (dblN s j)) 209 (0,0))) (fun i _=>10-(intOf i).toNat)
     case atStart=>exact⟨0,by omega,rfl,H4.out,S4.out⟩
     case round=>
      obtain⟨j,hj,rfl,H5',S5'⟩:=hrel
      have H5:=Lh H5'
      have S5:=Lh S5'
      clear H5' S5' H4 S4 w4
      by_cases hlt:j<10
      ·have hD:decide ((j:Int)<10)=true:=by simp;omega
       obtain⟨v0,hv0⟩:∃v,v=dblN s j:=⟨_,rfl⟩
       have V0:=Lh hv0
       rw[←hv0]at S5
       have N0:=Lh (show v0.length=16 by rw [hv0,qW8,HS.out])
       clear hv0
       obtain⟨wr0,hwr0⟩:∃wr0,wr0=wr:=⟨_,rfl⟩
       rw[←hwr0]at H5 S5 ⊢
       clear hwr0
       have Z0:=Lh (show(Tryz.prog.info? 209).map (·.size)=some (W32 v0).size by rw [qQA,N0.out];kernel_rfl)
       go_wp2_with (refine wpList_load_row rfl 209 (.tmp 10) rfl M rfl 209 (W32 v0) (0,0) _ S5.out Tryz.underlying209 rfl Z0.out ?_)
       refine(qZy v0 N0.out _ 0 4 8 12 (by omega) (by omega) (by omega) (by omega)).mono ?_
       rintro e w0' ⟨rfl,hb0⟩
       obtain⟨v1,hv1⟩:∃v,v=qZa v0 0 4 8 12:=⟨_,rfl⟩
       rw[←hv1]
       have V1:=Lh hv1
       have N1:=Lh (show v1.length=16 by rw [hv1,qQ6];exact N0.out)
       have Y0:=Lh (show(Tryz.prog.info? 209).map (·.size)=some (W32 v1).size by rw [qQA,N1.out];kernel_rfl)
       have T0:=Lh (qQb hb0 (qQe S5.out) S5.out)
       have G0:=Lh (H5.out.keep hb0)
       clear hv1 hb0 H5 S5 Z0 wr0
       go_upto_region 16 with (refine qQf rfl rfl 209 (.tmp 10) (.tmp 43) rfl M (W32 v1) rfl rfl 209 (W32 v0) T0.out Y0.out (by rw [qQA,qQA,N0.out,N1.out]) (qZt _) ?_;intro wr1 hg0 hgr0 hs0)
       have I1:=Lh (G0.out.grown hgr0 HM.out)
       have R1:=Lh hg0
       clear hg0 hgr0 hs0 G0 T0 Y0 w0' 
       have Z1:=Lh (show(Tryz.prog.info? 209).map (·.size)=some (W32 v1).size by rw [qQA,N1.out];kernel_rfl)
       go_wp2_with (refine wpList_load_row rfl 209 (.tmp 10) rfl M rfl 209 (W32 v1) (0,0) _ R1.out Tryz.underlying209 rfl Z1.out ?_)
       refine(qZy v1 N1.out _ 1 5 9 13 (by omega) (by omega) (by omega) (by omega)).mono ?_
       rintro e w1' ⟨rfl,hb1⟩
       obtain⟨v2,hv2⟩:∃v,v=qZa v1 1 5 9 13:=⟨_,rfl⟩
       rw[←hv2]
       have V2:=Lh hv2
       have N2:=Lh (show v2.length=16 by rw [hv2,qQ6];exact N1.out)
       have Y1:=Lh (show(Tryz.prog.info? 209).map (·.size)=some (W32 v2).size by rw [qQA,N2.out];kernel_rfl)
       have T1:=Lh (qQb hb1 (qQe R1.out) R1.out)
       have G1:=Lh (I1.out.keep hb1)
       clear hv2 hb1 I1 R1 Z1 wr1
       go_upto_region 17 with (refine qQf rfl rfl 209 (.tmp 10) (.tmp 45) rfl M (W32 v2) rfl rfl 209 (W32 v1) T1.out Y1.out (by rw [qQA,qQA,N1.out,N2.out]) (qZt _) ?_;intro wr2 hg1 hgr1 hs1)
       have I2:=Lh (G1.out.grown hgr1 HM.out)
       have R2:=Lh hg1
       clear hg1 hgr1 hs1 G1 T1 Y1 w1' 
       have Z2:=Lh (show(Tryz.prog.info? 209).map (·.size)=some (W32 v2).size by rw [qQA,N2.out];kernel_rfl)
       go_wp2_with (refine wpList_load_row rfl 209 (.tmp 10) rfl M rfl 209 (W32 v2) (0,0) _ R2.out Tryz.underlying209 rfl Z2.out ?_)
       refine(qZy v2 N2.out _ 2 6 10 14 (by omega) (by omega) (by omega) (by omega)).mono ?_
       rintro e w2' ⟨rfl,hb2⟩
       obtain⟨v3,hv3⟩:∃v,v=qZa v2 2 6 10 14:=⟨_,rfl⟩
       rw[←hv3]
       have V3:=Lh hv3
       have N3:=Lh (show v3.length=16 by rw [hv3,qQ6];exact N2.out)
       have Y2:=Lh (show(Tryz.prog.info? 209).map (·.size)=some (W32 v3).size by rw [qQA,N3.out];kernel_rfl)
       have T2:=Lh (qQb hb2 (qQe R2.out) R2.out)
       have G2:=Lh (I2.out.keep hb2)
       clear hv3 hb2 I2 R2 Z2 wr2
       go_upto_region 18 with (refine qQf rfl rfl 209 (.tmp 10) (.tmp 47) rfl M (W32 v3) rfl rfl 209 (W32 v2) T2.out Y2.out (by rw [qQA,qQA,N2.out,N3.out]) (qZt _) ?_;intro wr3 hg2 hgr2 hs2)
       have I3:=Lh (G2.out.grown hgr2 HM.out)
       have R3:=Lh hg2
       clear hg2 hgr2 hs2 G2 T2 Y2 w2' 
       have Z3:=Lh (show(Tryz.prog.info? 209).map (·.size)=some (W32 v3).size by rw [qQA,N3.out];kernel_rfl)
       go_wp2_with (refine wpList_load_row rfl 209 (.tmp 10) rfl M rfl 209 (W32 v3) (0,0) _ R3.out Tryz.underlying209 rfl Z3.out ?_)
       refine(qZy v3 N3.out _ 3 7 11 15 (by omega) (by omega) (by omega) (by omega)).mono ?_
       rintro e w3' ⟨rfl,hb3⟩
       obtain⟨v4,hv4⟩:∃v,v=qZa v3 3 7 11 15:=⟨_,rfl⟩
       rw[←hv4]
       have V4:=Lh hv4
       have N4:=Lh (show v4.length=16 by rw [hv4,qQ6];exact N3.out)
       have Y3:=Lh (show(Tryz.prog.info? 209).map (·.size)=some (W32 v4).size by rw [qQA,N4.out];kernel_rfl)
       have T3:=Lh (qQb hb3 (qQe R3.out) R3.out)
       have G3:=Lh (I3.out.keep hb3)
       clear hv4 hb3 I3 R3 Z3 wr3
       go_upto_region 19 with (refine qQf rfl rfl 209 (.tmp 10) (.tmp 49) rfl M (W32 v4) rfl rfl 209 (W32 v3) T3.out Y3.out (by rw [qQA,qQA,N3.out,N4.out]) (qZt _) ?_;intro wr4 hg3 hgr3 hs3)
       have I4:=Lh (G3.out.grown hgr3 HM.out)
       have R4:=Lh hg3
       clear hg3 hgr3 hs3 G3 T3 Y3 w3' 
       have Z4:=Lh (show(Tryz.prog.info? 209).map (·.size)=some (W32 v4).size by rw [qQA,N4.out];kernel_rfl)
       go_wp2_with (refine wpList_load_row rfl 209 (.tmp 10) rfl M rfl 209 (W32 v4) (0,0) _ R4.out Tryz.underlying209 rfl Z4.out ?_)
       refine(qZy v4 N4.out _ 0 5 10 15 (by omega) (by omega) (by omega) (by omega)).mono ?_
       rintro e w4' ⟨rfl,hb4⟩
       obtain⟨v5,hv5⟩:∃v,v=qZa v4 0 5 10 15:=⟨_,rfl⟩
       rw[←hv5]
       have V5:=Lh hv5
       have N5:=Lh (show v5.length=16 by rw [hv5,qQ6];exact N4.out)
       have Y4:=Lh (show(Tryz.prog.info? 209).map (·.size)=some (W32 v5).size by rw [qQA,N5.out];kernel_rfl)
       have T4:=Lh (qQb hb4 (qQe R4.out) R4.out)
       have G4:=Lh (I4.out.keep hb4)
       clear hv5 hb4 I4 R4 Z4 wr4
       go_upto_region 20 with (refine qQf rfl rfl 209 (.tmp 10) (.tmp 51) rfl M (W32 v5) rfl rfl 209 (W32 v4) T4.out Y4.out (by rw [qQA,qQA,N4.out,N5.out]) (qZt _) ?_;intro wr5 hg4 hgr4 hs4)
       have I5:=Lh (G4.out.grown hgr4 HM.out)
       have R5:=Lh hg4
       clear hg4 hgr4 hs4 G4 T4 Y4 w4' 
       have Z5:=Lh (show(Tryz.prog.info? 209).map (·.size)=some (W32 v5).size by rw [qQA,N5.out];kernel_rfl)
       go_wp2_with (refine wpList_load_row rfl 209 (.tmp 10) rfl M rfl 209 (W32 v5) (0,0) _ R5.out Tryz.underlying209 rfl Z5.out ?_)
       refine(qZy v5 N5.out _ 1 6 11 12 (by omega) (by omega) (by omega) (by omega)).mono ?_
       rintro e w5' ⟨rfl,hb5⟩
       obtain⟨v6,hv6⟩:∃v,v=qZa v5 1 6 11 12:=⟨_,rfl⟩
       rw[←hv6]
       have V6:=Lh hv6
       have N6:=Lh (show v6.length=16 by rw [hv6,qQ6];exact N5.out)
       have Y5:=Lh (show(Tryz.prog.info? 209).map (·.size)=some (W32 v6).size by rw [qQA,N6.out];kernel_rfl)
       have T5:=Lh (qQb hb5 (qQe R5.out) R5.out)
       have G5:=Lh (I5.out.keep hb5)
       clear hv6 hb5 I5 R5 Z5 wr5
       go_upto_region 21 with (refine qQf rfl rfl 209 (.tmp 10) (.tmp 53) rfl M (W32 v6) rfl rfl 209 (W32 v5) T5.out Y5.out (by rw [qQA,qQA,N5.out,N6.out]) (qZt _) ?_;intro wr6 hg5 hgr5 hs5)
       have I6:=Lh (G5.out.grown hgr5 HM.out)
       have R6:=Lh hg5
       clear hg5 hgr5 hs5 G5 T5 Y5 w5' 
       have Z6:=Lh (show(Tryz.prog.info? 209).map (·.size)=some (W32 v6).size by rw [qQA,N6.out];kernel_rfl)
       go_wp2_with (refine wpList_load_row rfl 209 (.tmp 10) rfl M rfl 209 (W32 v6) (0,0) _ R6.out Tryz.underlying209 rfl Z6.out ?_)
       refine(qZy v6 N6.out _ 2 7 8 13 (by omega) (by omega) (by omega) (by omega)).mono ?_
       rintro e w6' ⟨rfl,hb6⟩
       obtain⟨v7,hv7⟩:∃v,v=qZa v6 2 7 8 13:=⟨_,rfl⟩
       rw[←hv7]
       have V7:=Lh hv7
       have N7:=Lh (show v7.length=16 by rw [hv7,qQ6];exact N6.out)
       have Y6:=Lh (show(Tryz.prog.info? 209).map (·.size)=some (W32 v7).size by rw [qQA,N7.out];kernel_rfl)
       have T6:=Lh (qQb hb6 (qQe R6.out) R6.out)
       have G6:=Lh (I6.out.keep hb6)
       clear hv7 hb6 I6 R6 Z6 wr6
       go_upto_region 22 with (refine qQf rfl rfl 209 (.tmp 10) (.tmp 55) rfl M (W32 v7) rfl rfl 209 (W32 v6) T6.out Y6.out (by rw [qQA,qQA,N6.out,N7.out]) (qZt _) ?_;intro wr7 hg6 hgr6 hs6)
       have I7:=Lh (G6.out.grown hgr6 HM.out)
       have R7:=Lh hg6
       clear hg6 hgr6 hs6 G6 T6 Y6 w6' 
       have Z7:=Lh (show(Tryz.prog.info? 209).map (·.size)=some (W32 v7).size by rw [qQA,N7.out];kernel_rfl)
       go_wp2_with (refine wpList_load_row rfl 209 (.tmp 10) rfl M rfl 209 (W32 v7) (0,0) _ R7.out Tryz.underlying209 rfl Z7.out ?_)
       refine(qZy v7 N7.out _ 3 4 9 14 (by omega) (by omega) (by omega) (by omega)).mono ?_
       rintro e w7' ⟨rfl,hb7⟩
       obtain⟨v8,hv8⟩:∃v,v=qZa v7 3 4 9 14:=⟨_,rfl⟩
       rw[←hv8]
       have V8:=Lh hv8
       have N8:=Lh (show v8.length=16 by rw [hv8,qQ6];exact N7.out)
       have Y7:=Lh (show(Tryz.prog.info? 209).map (·.size)=some (W32 v8).size by rw [qQA,N8.out];kernel_rfl)
       have T7:=Lh (qQb hb7 (qQe R7.out) R7.out)
       have G7:=Lh (I7.out.keep hb7)
       clear hv8 hb7 I7 R7 Z7 wr7
       go_upto_region 14 with (refine qQf rfl rfl 209 (.tmp 10) (.tmp 57) rfl M (W32 v8) rfl rfl 209 (W32 v7) T7.out Y7.out (by rw [qQA,qQA,N7.out,N8.out]) (qZt _) ?_;intro wr8 hg7 hgr7 hs7)
       have I8:=Lh (G7.out.grown hgr7 HM.out)
       have R8:=Lh hg7
       clear hg7 hgr7 hs7 G7 T7 Y7 w7' 
       go_wp2_with fail
       go_roundw
       case rel=>
        refine⟨j+1,by omega,by go_num,I8.out,?_⟩
        rw[dblN_succ,←V0.out,←V1.out,←V2.out,←V3.out,←V4.out,←V5.out,←V6.out,←V7.out,←V8.out]
        exact R8.out
       case measure=>simp [intOf];omega
      ·have hj10:Hid (j=10):=show j=10 by omega
       have hD:decide ((j:Int)<10)=false:=by simp;omega
       go_upto_region 24 with fail
       obtain⟨O,hO⟩:∃O,O=wr.heap.size:=⟨_,rfl⟩
       have hMO:M<O:=by rw [hO];exact qQe S5.out
       refine qZ1 (fun W=>RkbW w s W∧W.heap[M]?=some (.cells (W32 (dblN s 10)) 209 (0,0))∧W.heap[O]?=some (.cells (W8 (outK (dblN s 10) s 0)) 179 (0,0)))
        ⟨H5.out.keep ((Below.refl _ _).alloc (kQh _) _),qQM _ _ _ (qQe S5.out) (by rw [hj10.out]at S5;exact S5.out),qQk _ _ _ hO⟩ ?_
       rw[←hO]
       have HO:=Lh hMO
       clear hO hMO hD hlt hj
       rintro w6 ⟨H6',S6',O6'⟩
       have H6:=Lh H6'
       have S6:=Lh S6'
       have O6:=Lh O6'
       clear H6' S6' O6' H5 S5 wr
       generalize hv:dblN s 10=v at S6 O6
       have HV:=Lh (show v.length=16 by rw [←hv,qW8,HS.out])
       have EV:=Lh hv
       clear hv
       go_wp2_with fail
       go_loopw [13] (fun i wr=>∃j:Nat,j≤64∧i=.int .i64 (j:Int)∧RkbW w s wr∧wr.heap[M]?=some (.cells (W32 v) 209 (0,0))∧wr.heap[O]?=some (.cells (W8 (outK v s j)) 179 (0,0))) (fun i _=>64-(intOf i).toNat)
       case atStart=>exact⟨0,by omega,rfl,H6.out,S6.out,O6.out⟩
       case round=>
        obtain⟨j,hj,rfl,H7',S7',O7'⟩:=hrel
        have H7:=Lh H7'
        have S7:=Lh S7'
        have O7:=Lh O7'
        clear H7' S7' O7' H6 S6 O6 w6
        by_cases hlt:j<64
        ·have a1:=qQg S7.out (j/4) (qQZ _ _ (by rw [HV.out];omega))
         have a2:=qQg H7.out.bs (j/4) (qQZ _ _ (by rw [HS.out];omega))
         obtain⟨x,hx⟩:∃x,x=v.getD (j/4) 0:=⟨_,rfl⟩
         obtain⟨y,hy⟩:∃y,y=s.getD (j/4) 0:=⟨_,rfl⟩
         rw[←hx]at a1
         rw[←hy]at a2
         have HX:=Lh hx
         have HY:=Lh hy
         clear hx hy
         have a3:=qQg O7.out j (qZ4 _ j (by rw [qXt];exact hlt))
         have a4:=qQz O7.out j
         obtain⟨z,hz,e1⟩:=sum_ex x y
         obtain⟨q,hq,e2⟩:=byte_ex z (8*(j % 4)) (by omega)
         have hD:decide ((j:Int)<64)=true:=by simp;omega
         go_wp2_with fail
         have b0:(j:Int)<64:=by omega
         have b1:(0:Int)≤(j:Int)/4:=by omega
         have b2:(j:Int)/4<16:=by omega
         have b3:(0:Int)≤8*((j:Int) % 4):=by omega
         have e3:IntKind.i64.wrap ((j:Int)/4)=(j:Int)/4:=IntWalk.i64_in _ (by omega)
         have e4:((j:Int)/4).toNat=j/4:=by omega
         have e5:(j:Int).tmod 4=(j:Int) % 4:=Int.tmod_eq_emod_of_nonneg (by omega)
         have e6:IntKind.i64.wrap ((j:Int) % 4)=(j:Int) % 4:=IntWalk.i64_in _ (by omega)
         have e7:IntKind.i64.wrap (8*((j:Int) % 4))=8*((j:Int) % 4):=IntWalk.i64_in _ (by omega)
         have e8:(8*((j:Int) % 4)).toNat=8*(j % 4):=by omega
         have e9:IntKind.u64.wrap (8*((j:Int) % 4))=8*((j:Int) % 4):=by rw [IntKind.wrap_u64];omega
         go_still_tail 17,(by kernel_rfl)
         clear e1 e2 e3 e4 e5 e6 e7 e8 e9
         change wpList _ _ _ _ _ wr.drew
         go_wp2_with fail
         go_roundw
         case rel=>
          refine⟨j+1,by omega,by go_num,?_⟩
          have G:wr.grownBy ((wr.setCell ⟨O,j,none⟩ (.int .u8 (q.toNat:Int))).drew) (some O):=qZS (qQF (World.grownBy.refl _ _) _ _)
          refine⟨H7.out.grown G (by have:=HM.out;have:=HO.out;omega),qQd G (by have:=HO.out;simp;omega) S7.out,?_⟩
          show(wr.setCell ⟨O,j,none⟩ (.int .u8 (q.toNat:Int))).heap[O]?=_
          rw[heap_setCell_same _ _ _ _ _ _ O7.out,qYX,outK,byteOf,←HX.out,←HY.out,←hz.out,←hq.out]
         case measure=>simp [intOf];omega
        ·have hj64:Hid (j=64):=show j=64 by omega
         have hD:decide ((j:Int)<64)=false:=by simp;omega
         have Z8:=Lh (show(Tryz.prog.info? 179).map (·.size)=some (W8 (outK v s j)).size by rw [qQw,qXt];kernel_rfl)
         have Z9:=Lh (show(W8 (kQc 64 0)).size=(W8 (outK v s j)).size by rw [qQw,qQw,qXt];rfl)
         clear hlt hj
         go_wp2_with (first
          | (refine wpList_load_row rfl 179 (.tmp 12) rfl O rfl 179 (W8 (outK v s j)) (0,0) _ O7.out Tryz.underlying179 rfl Z8.out ?_)
          | (refine qQf rfl rfl 179 (.tmp 6) (.tmp 79) rfl w.heap.size (W8 (outK v s j)) rfl rfl 179 _ H7.out.bz Z8.out Z9.out (qZg _) ?_;intro w8 hz8 hg8 _))
         refine bodyPost_ret (results_cell_row rfl _ _ w.heap.size 179 (W8 (outK v s j)) (0,0) _ rfl hz8 Tryz.underlying179 rfl Z8.out) rfl ⟨?_,?_⟩
         ·rw [qXK,hj64.out,←EV.out,ES.out]
         ·exact H7.out.bel.trans (qQi hg8 (Nat.le_of_lt (qQe H7.out.bz)) (by rintro g ⟨⟩;omega))
theorem count_j' (count:UInt32) (j:Nat) (hj:j≤1000):((count.toNat:Int)+(j:Int)/64) % 4294967296=((count+UInt32.ofNat (j/64)).toNat:Int):=by
 rw[UInt32.toNat_add,UInt32.toNat_ofNat']
 simp only [Nat.reducePow]
 omega
structure RsW (w:World) (b:List UInt8) (W:World):Prop where
 bb:W.heap[w.heap.size]?=some (.cells (W8 b) 179 (0,0))
 bel:Below w.heap.size w W
theorem RsW.below {w W W':World} {b:List UInt8} (h:RsW w b W) (hb:Below W.heap.size W W'):RsW w b W':=⟨qQb hb (qQe h.bb) h.bb,h.bel.trans (hb.mono (Nat.le_of_lt (qQe h.bb)))⟩
theorem zero64:W8 (kQc 64 0)=#[.int .u8 0,.int .u8 0,.int .u8 0,.int .u8 0,.int .u8 0,.int .u8 0,.int .u8 0,.int .u8 0,.int .u8 0,.int .u8 0,.int .u8 0,.int .u8 0,.int .u8 0,.int .u8 0,.int .u8 0,.int .u8 0,
  .int .u8 0,.int .u8 0,.int .u8 0,.int .u8 0,.int .u8 0,.int .u8 0,.int .u8 0,.int .u8 0,.int .u8 0,.int .u8 0,.int .u8 0,.int .u8 0,.int .u8 0,.int .u8 0,.int .u8 0,.int .u8 0,
  .int .u8 0,.int .u8 0,.int .u8 0,.int .u8 0,.int .u8 0,.int .u8 0,.int .u8 0,.int .u8 0,.int .u8 0,.int .u8 0,.int .u8 0,.int .u8 0,.int .u8 0,.int .u8 0,.int .u8 0,.int .u8 0,
  .int .u8 0,.int .u8 0,.int .u8 0,.int .u8 0,.int .u8 0,.int .u8 0,.int .u8 0,.int .u8 0,.int .u8 0,.int .u8 0,.int .u8 0,.int .u8 0,.int .u8 0,.int .u8 0,.int .u8 0,.int .u8 0]:=rfl
theorem qJu (k n:List UInt8) (hk:k.length=32) (hn:n.length=12) (count:UInt32) (bs:List UInt8) (hb:bs.length≤1000) (w:World) :
  Calls Tryz.prog 75 #[.string (strB k),.string (strB n),.int .u32 (count.toNat:Int),.string (strB bs)] w fun e w'=>e=.returned (.string (strB (qQY k n count bs)))∧Below w.heap.size w w':=by
 have HK:=Lh hk
 have HN:=Lh hn
 have HBB:=Lh hb
 obtain⟨N,hN⟩:∃N,N=bs.length:=⟨_,rfl⟩
 have hs:(strB bs).size=N:=by rw [qQH,hN]
 have NV:=Lh hN
 have N1:=Lh (show N≤1000 by rw [hN];exact hb)
 clear hk hn hb hN
 go_enter Tryz.func75,Tryz.ntmps75
 go_wp2_with fail
 rw[←zero64]
 obtain⟨i0,hi,hz0,hz1,hz2⟩:=info_parts (show(Tryz.prog.info? 5).map (fun i=>(i.zero,i.size,i.bytes))=some (some (.int .u8 0),1,1) by kernel_rfl)
 have I0:=Lh hi
 have I2:=Lh hz1
 clear hi hz0 hz1 hz2
 refine qZ1 (fun W=>RsW w (kQc 64 0) W) ⟨qQk _ _ _ rfl,(Below.refl _ _).alloc (kQh _) _⟩ ?_
 intro w1 h1
 have H1:=Lh h1
 clear h1
 go_loopw [9,11] (fun o i wr=>∃(j:Nat) (b:List UInt8),j≤N∧b.length=64∧i=.int .i64 (j:Int)∧o=.string (strB ((qQY k n count bs).take j))∧(j % 64≠0→b=qXK k n (count+UInt32.ofNat (j/64)))∧RsW w b wr) (fun _ i _=>N-(intOf i).toNat)
 case atStart=>exact⟨0,kQc 64 0,by omega,by simp,rfl,rfl,by omega,H1.out⟩
 case round=>
  obtain⟨j,b,hj,hbl,rfl,rfl,hbk,ht⟩:=hrel
  have J:=Lh hj
  have BL:=Lh hbl
  have BK:=Lh hbk
  have H2:=Lh ht
  have hn1:=N1.out
  clear hj hbl hbk ht H1 w1
  by_cases hlt:j<N
  ·have hD:decide ((j:Int)<(N:Int))=true:=by simp;omega
   go_upto_if 20 with fail
   go_cut [11] (fun i wx=>i=.int .i64 (j:Int)∧RsW w (qXK k n (count+UInt32.ofNat (j/64))) wx)
   case first=>
    by_cases h64:j % 64=0
    ·have e5:(((j:Int) % 64)==0)=true:=by simp;omega
     go_wp2_with fail
     rw[count_j' count j (by omega)]
     obtain⟨cq,hcq⟩:∃cq,cq=count+UInt32.ofNat (j/64):=⟨_,rfl⟩
     rw[←hcq]
     refine(qKg k n HK.out HN.out cq _).mono ?_
     rintro e w2 ⟨rfl,hb2⟩
     have H3:=Lh (H2.out.below hb2)
     clear hb2
     obtain⟨B,hB⟩:∃B,B=qXK k n cq:=⟨_,rfl⟩
     rw[←hB]
     have LB:=Lh (show B.length=64 by rw [hB,qZ0])
     have EB:=Lh hB
     clear hB
     have Z1:=Lh (show(Tryz.prog.info? 179).map (·.size)=some (W8 B).size by rw [qQw,LB.out];kernel_rfl)
     go_wp2_with (refine qQf rfl rfl 179 (.tmp 10) (.tmp 28) rfl w.heap.size (W8 B) rfl rfl 179 (W8 b) H3.out.bb Z1.out (by rw [qQw,qQw,BL.out,LB.out]) (qZg _) ?_;intro w3 hg3 hgr3 hs3)
     go_meet
     refine⟨rfl,?_⟩
     rw[←hcq,←EB.out]
     exact⟨hg3,H3.out.bel.trans (qQi hgr3 (Nat.le_of_lt (qQe H3.out.bb)) (fun g e=>by simp at e;omega))⟩
    ·have e5:(((j:Int) % 64)==0)=false:=by simp;omega
     go_wp2_with fail
     go_meet
     exact⟨rfl,by rw [←BK.out h64];exact H2.out⟩
   case rest=>
    obtain⟨rfl,h3⟩:=hcut
    go_upto_region 8 with fail
    clear BK BL
    obtain⟨B,hB⟩:∃B,B=qXK k n (count+UInt32.ofNat (j/64)):=⟨_,rfl⟩
    rw[←hB]at h3
    have H3:=Lh h3
    have BL:=Lh (show B.length=64 by rw [hB,qZ0])
    have EB:=Lh hB
    clear hB h3
    obtain⟨x,hx⟩:∃x,x=bs.getD j 0:=⟨_,rfl⟩
    obtain⟨y,hy⟩:∃y,y=B.getD (j % 64) 0:=⟨_,rfl⟩
    have X:=Lh hx
    have Y:=Lh hy
    obtain⟨z,hz,e1⟩:=xor_ex x y
    have e2:Hid ((j:Int).tmod 64=((j % 64:Nat):Int)):=by show _=_;rw [Int.tmod_eq_emod_of_nonneg (by omega)];omega
    have C1:=Lh (fun W (hW:RsW w B W)=>(show W.cell? ⟨w.heap.size,j % 64,none⟩=some (.int .u8 (y.toNat:Int)) by
     have:=qQg hW.bb (j % 64) (qZ4 B (j % 64) (by rw [BL.out];omega))
     rw[this,Y.out]))
    clear hx hy hlt
    have hlt2:=Lh (show j<bs.length by have:=NV.out;have:=J.out;simp at hD;omega)
    refine qZl (RsW w B) [0,1,2,3,4,5,6,7,8] [9,10,11,12] (by kernel_rfl) (by kernel_rfl) (fun _ _ d _ _ h=>by cases d<;>exact h) (H3.out.below (Below.refl _ _).drew) ?_
    simp only [kQl,kQm,kQd,kQg,kQe]
    refine qQm (by rfl) (fun W hW=>by go_simp;rfl) ?_
    simp only [Act.put,pq1,pq2,pq3]
    refine qQm (by rfl) (fun W hW=>by go_simp;rfl) ?_
    simp only [Act.put,pq1,pq2,pq3]
    refine qQm (by rfl) (fun W hW=>by go_simp;rfl) ?_
    simp only [Act.put,pq1,pq2,pq3]
    refine qQm (by rfl) (fun W hW=>qQV 9 (.tmp 30) (.tmp 31) rfl Tryz.underlying9 bs j x X.out hlt2.out .i64 _ rfl rfl rfl W) ?_
    simp only [Act.put,pq1,pq2,pq3]
    refine qQm (by rfl) (fun W hW=>by go_simp;rfl) ?_
    simp only [Act.put,pq1,pq2,pq3]
    refine qQm (by rfl) (fun W hW=>by go_simp;rfl) ?_
    simp only [Act.put,pq1,pq2,pq3]
    refine qQm (by rfl) (fun W hW=>qXB 179 (.tmp 10) (.tmp 34) rfl 64 5 Tryz.underlying179 I0.out I2.out w.heap.size (j % 64) (by omega) .i64 _ e2.out rfl rfl W) ?_
    simp only [Act.put,pq1,pq2,pq3]
    refine qQm (by rfl) (fun W hW=>qQq 5 (.tmp 35) rfl _ Tryz.underlying5 rfl rfl (C1.out W hW)) ?_
    simp only [Act.put,pq1,pq2,pq3]
    refine qQm (by rfl) (fun W hW=>by go_simp;rfl) ?_
    simp only [Act.put,pq1,pq2,pq3]
    clear e1
    refine qXE ?_
    refine qXi (by rfl) (fun K hK=>?_)
    go_simp
    have H4:=Lh (show RsW w B (wc.drew.alloc (.cells #[.int .u8 (z.toNat:Int)] 5))from H3.out.below ((Below.refl _ _).drew.alloc (kQh _) _))
    refine hK.out _ _ H4.out ?_
    clear hK K
    refine qZu (by rfl) H4.out (qZo 22 9 (.tmp 38) rfl Tryz.underlying22 Tryz.underlying5 Tryz.underlying9 (RdB.one (y:=z) (qQg (fr:=(0,0)) (qQk _ _ _ rfl) 0 rfl)) 1 1 rfl rfl) ?_
    simp only [Act.put,pq1,pq2,pq3]
    refine qZu (by rfl) H4.out (qQW 9 _ (.tmp 29) (.tmp 39) rfl ((qQY k n count bs).take j) [z] rfl rfl (by have:=N1.out;have:=NV.out;rw [kQp,qQX];simp;omega) _) ?_
    simp only [Act.put,pq1,pq2,pq3]
    refine qZu (by rfl) H4.out (by go_simp;rfl) ?_
    simp only [Act.put,pq1,pq2,pq3]
    refine qXD ?_
    have hj1:j<1000:=by have:=hlt2.out;have:=HBB.out;omega
    go_wp2_with fail
    go_roundw
    case rel=>
     refine⟨j+1,B,by have:=hlt2.out;have:=NV.out;omega,BL.out,by go_num,?_,fun h=>?_,H4.out⟩
     ·congr 2
      rw[qKe _ _ _ _ _ hlt2.out,←X.out,qJh,←EB.out,←Y.out,←hz.out]
     ·rw [EB.out]
      congr 3
      omega
    case measure=>have:=hlt2.out;have:=NV.out;simp [intOf];omega
  ·have hjn:Hid (j=N):=show j=N by have:=J.out;omega
   have hD:decide ((j:Int)<(N:Int))=false:=by simp;omega
   go_wp2_with fail
   go_ret
   refine⟨?_,H2.out.bel⟩
   show Ending.returned (.string (strB ((qQY k n count bs).take j)))=_
   rw[kQn (by rw [qQX,hjn.out,NV.out];exact kQh _)]
def qWE (n:Nat):List UInt8:=kQc ((16-n % 16) % 16) 0
theorem qYD (l:List UInt8):padB l=l++qWE l.length:=rfl
theorem qQv (n:Nat):(qWE n).length=(16-n % 16) % 16:=by simp [qWE]
def strLen:Value→Nat
 | .string s=>s.size
 | _=>0
theorem qVe (n:Nat) (hn:n≤100000) (w:World) :
  Calls Tryz.prog 100 #[.int .i64 (n:Int)] w fun e w'=>e=.returned (.string (strB (qWE n)))∧w'=w:=by
 have nb:(n:Int)≤100000:=by omega
 have N:=Lh hn
 clear hn
 obtain⟨P,hP⟩:∃P,P=(16-n % 16) % 16:=⟨_,rfl⟩
 have PE:=Lh hP
 have P16:=Lh (show P≤15 by omega)
 clear hP
 go_enter Tryz.func100,Tryz.ntmps100
 go_wp2_with fail
 go_loopw [3] (fun u wr=>∃j:Nat,j≤P∧u=.string (strB (kQc j 0))∧wr=w) (fun u _=>P-strLen u)
 case atStart=>exact⟨0,by omega,rfl,rfl⟩
 case round=>
  obtain⟨j,hj,rfl,hw⟩:=hrel
  rw[hw]
  clear hw wr
  obtain⟨q,hq⟩:∃q:List UInt8,q=kQc j 0:=⟨_,rfl⟩
  have SS:=qQH q
  rw[show q.length=j by rw [hq];simp]at SS
  rw[←hq]
  have QE:=Lh hq
  have JP:=Lh hj
  have jb:(j:Int)≤15:=by have:=P16.out;omega
  clear hq hj
  by_cases h16:(n+j) % 16=0
  ·have e1:((((n:Int)+(j:Int)) % 16)==0)=true:=by simp;omega
   have e2:((((n:Int)+(j:Int)) % 16) != 0)=false:=by simp;omega
   have hD:decide (((n:Int)+(j:Int)) % 16=0)=true:=by simp;omega
   have JE:=Lh (show q=qWE n by rw [QE.out,qWE];congr 1;have:=PE.out;have:=JP.out;omega)
   clear h16
   go_wp2_with fail
   go_ret
   exact⟨by rw [←JE.out];rfl,rfl⟩
  ·have e1:((((n:Int)+(j:Int)) % 16)==0)=false:=by simp;omega
   have e2:((((n:Int)+(j:Int)) % 16) != 0)=true:=by simp;omega
   have hD:decide (((n:Int)+(j:Int)) % 16=0)=false:=by simp;omega
   have MP:=Lh (show j<P by have:=PE.out;have:=JP.out;omega)
   have QL:=Lh (show q.length=j by rw [QE.out];simp)
   clear h16
   go_upto_region 3 with fail
   clear SS
   go_wp2_with (refine qQa rfl (qQW 9 _ (.tmp 10) (.const (.string { data:=#[0] })) rfl q [0] rfl rfl (by have:=QL.out;have:=MP.out;have:=P16.out;simp;omega) _) ?_)
   go_roundw
   case rel=>exact⟨j+1,by have:=MP.out;omega,by rw [QE.out,List.replicate_succ'],trivial⟩
   case measure=>
    have h1:strLen (.string (strB (q++[0])))=j+1:=by show(strB (q++[0])).size=_;rw [qQH,kQj,QL.out];rfl
    have h2:strLen (.string (strB q))=j:=by show(strB q).size=_;rw [qQH,QL.out]
    have:=MP.out
    show P-strLen (.string (strB (q++[0])))<P-strLen (.string (strB q))
    rw[h1,h2]
    omega
theorem qXj (n:Nat) (hn:n≤1000000) (w:World) :
  Calls Tryz.prog 101 #[.int .i64 (n:Int)] w fun e w'=>e=.returned (.string (strB (leL 8 n)))∧Below w.heap.size w w':=by
 have HN:=Lh hn
 have nb:(n:Int)≤1000000:=by omega
 have e0:IntKind.u64.wrap (n:Int)=(n:Int):=by rw [IntKind.wrap_u64];omega
 clear hn
 go_enter Tryz.func101,Tryz.ntmps101
 go_wp2_with fail
 go_loopw [3,4] (fun u i wr=>∃r:Nat,r≤8∧i=.int .i64 (r:Int)∧u=.string (strB (leL r n))∧Below w.heap.size w wr) (fun _ i _=>8-(intOf i).toNat)
 case atStart=>exact⟨0,by omega,rfl,rfl,Below.refl _ _⟩
 case round=>
  obtain⟨r,hr,rfl,rfl,hb⟩:=hrel
  have R:=Lh hr
  have S:=Lh hb
  obtain⟨q,hq⟩:∃q,q=leL r n:=⟨_,rfl⟩
  rw[←hq]
  have QE:=Lh hq
  have QL:=Lh (show q.length≤8 by rw [hq,qQP];exact hr)
  clear hr hb hq
  by_cases hlt:r<8
  ·have hD:decide ((r:Int)<8)=true:=by simp;omega
   have R8:=Lh hlt
   have rb:(r:Int)≤7:=by omega
   have e2:8*(r:Int)≤64:=by omega
   have e4:(8*(r:Int)).toNat=8*r:=by omega
   have e5:IntKind.u64.wrap (8*(r:Int))=8*(r:Int):=by rw [IntKind.wrap_u64];omega
   obtain⟨z,hz,e3⟩:=qYN n r HN.out
   have RZ:=Lh (RdB.one (w:=wr.alloc (.cells #[.int .u8 (z.toNat:Int)] 5)) (y:=z) (qQg (fr:=(0,0)) (qQk wr _ _ rfl) 0 rfl))
   clear hlt
   go_wp2_with (first
    | (refine qQa rfl (qZo 22 9 (.tmp 17) rfl Tryz.underlying22 Tryz.underlying5 Tryz.underlying9 RZ.out 1 1 rfl rfl) ?_)
    | (refine qQa rfl (qQW 9 _ (.tmp 9) (.tmp 18) rfl q [z] rfl rfl (by have:=QL.out;simp;omega) _) ?_))
   have S2:=Lh (show Below w.heap.size w (wr.alloc (.cells #[.int .u8 (z.toNat:Int)] 5))from S.out.alloc S.out.size _)
   have ZE:=Lh (show q++[z]=leL (r+1) n by rw [QE.out,leL_succ,←hz.out])
   clear hD e2 e3 e4 e5
   go_wp2_with fail
   go_roundw
   case rel=>exact⟨r+1,by have:=R8.out;omega,by go_num,by rw [ZE.out],S2.out⟩
   case measure=>have:=R8.out;simp [intOf];omega
  ·have hD:decide ((r:Int)<8)=false:=by simp;omega
   have RE:=Lh (show q=leL 8 n by rw [QE.out];congr 1;have:=R.out;omega)
   go_wp2_with fail
   go_ret
   exact⟨by rw [←RE.out];rfl,S.out⟩
theorem over_cat (l l2:List UInt8):((((l++qWE l.length)++l2)++qWE l2.length)++leL 8 l.length)++leL 8 l2.length=overL l l2:=by
 rw[overL,qYD,qYD,List.append_assoc (l++qWE l.length)]
theorem zero32g:W8 (kQc 32 0)=#[.int .u8 0,.int .u8 0,.int .u8 0,.int .u8 0,.int .u8 0,.int .u8 0,.int .u8 0,.int .u8 0,.int .u8 0,.int .u8 0,.int .u8 0,.int .u8 0,.int .u8 0,.int .u8 0,.int .u8 0,.int .u8 0,.int .u8 0,.int .u8 0,.int .u8 0,.int .u8 0,.int .u8 0,.int .u8 0,.int .u8 0,.int .u8 0,.int .u8 0,.int .u8 0,.int .u8 0,.int .u8 0,.int .u8 0,.int .u8 0,.int .u8 0,.int .u8 0]:=rfl
structure RgW (w:World) (M:Nat) (B:List UInt8) (M2:Nat) (k:List UInt8) (W:World):Prop where
 bel:Below w.heap.size w W
 b1:W.heap[M]?=some (.cells (W8 B) 179 (0,0))
 b2:W.heap[M2]?=some (.cells (W8 k) 37 (0,0))
 h1:w.heap.size≤M
 h2:M<M2
theorem rtag_any (k n:List UInt8) (hk:k.length=32) (hn:n.length=12) (l l2:List UInt8) (hl:l.length≤1000) (hl2:l2.length≤1000) (w:World) :
  Calls Tryz.prog 76 #[.string (strB k),.string (strB n),.string (strB l),.string (strB l2)] w fun e w'=>e=.returned (.string (strB (tagL k n l l2)))∧Below w.heap.size w w':=by
 obtain⟨i0,hi0,hz0,hz1,hz2⟩:=info_parts (show(Tryz.prog.info? 5).map (fun i=>(i.zero,i.size,i.bytes))=some (some (.int .u8 0),1,1) by kernel_rfl)
 have I0:=Lh hi0
 have HK:=Lh hk
 have HN:=Lh hn
 have HL:=Lh hl
 have HL2:=Lh hl2
 have Z:=Lh qKz
 have Z32:=Lh zero32g
 obtain⟨T,hT⟩:∃T,T=tagL k n l l2:=⟨_,rfl⟩
 rw[←hT]
 have TE:=Lh hT
 obtain⟨B,hB⟩:∃B,B=qXK k n 0:=⟨_,rfl⟩
 have BE:=Lh hB
 have BL:=Lh (show B.length=64 by rw [hB,qZ0])
 have ZB:=Lh (show(Tryz.prog.info? 179).map (·.size)=some (W8 B).size by rw [qQw,BL.out];kernel_rfl)
 obtain⟨Kh,hKh⟩:∃K,K=B.take 32:=⟨_,rfl⟩
 have KE:=Lh hKh
 have KL:=Lh (show Kh.length=32 by rw [hKh,kQp,BL.out];rfl)
 have ZK:=Lh (show(Tryz.prog.info? 37).map (·.size)=some (W8 Kh).size by rw [qQw,KL.out];kernel_rfl)
 have TL:=Lh (show T.length=16 by rw [hT,qXq])
 have TP:=Lh (show polyL Kh (l++(qWE l.length++(l2++(qWE l2.length++(leL 8 l.length++leL 8 l2.length)))))=T by rw [show l++(qWE l.length++(l2++(qWE l2.length++(leL 8 l.length++leL 8 l2.length))))=overL l l2 by rw [←over_cat];simp only [List.append_assoc],hT,hKh,hB];rfl)
 clear hk hn hl hl2 hT hB hKh hi0 hz0 hz1 hz2
 go_enter Tryz.func76,Tryz.ntmps76
 go_wp2_with fail
 refine(qKg k n HK.out HN.out 0 w).mono ?_
 rw[←BE.out]
 rintro e w1 ⟨rfl,hb⟩
 have S0:=Lh hb
 clear hb
 go_upto_block 0 with (refine qQp rfl rfl 179 (.tmp 9) (.tmp 15) rfl (W8 B) rfl rfl ZB.out ?c1 (qZg _) ?_)
 case c1=>rw [qQw,BL.out];rfl
 rw[←Z32.out]
 generalize hM:Array.size (World.heap w1)=M
 generalize hw2:World.alloc w1 _=w2
 generalize hM2:M+1=M2
 generalize hw3:World.alloc w2 _=w3
 have S:=Lh (show RgW w M B M2 (qXF Kh 0) w3 by
  have s2:w2.heap.size=M2:=by rw [←hw2,qQD,hM,hM2]
  have e0:qXF Kh 0=kQc 32 0:=by rw [qX3,KL.out]
  have hb:Below w.heap.size w w3:=by rw [←hw3];exact(show Below w.heap.size w w2 by rw [←hw2];exact S0.out.alloc S0.out.size _).alloc (by rw [s2,←hM2,←hM];have:=S0.out.size;omega) _
  rw[e0]
  refine⟨hb,?_,?_,by rw [←hM];exact S0.out.size,by omega⟩
  ·rw [←hw3];exact qQM _ _ _ (by omega) (by rw [←hw2];exact qQk _ _ _ hM.symm)
  ·rw [←hw3];exact qQk _ _ _ s2.symm)
 clear hM hw2 hM2 hw3 S0
 go_cut [10] (fun v wx=>v=.pointer (some ⟨M2,0,none⟩)∧RgW w M B M2 Kh wx)
 case first=>
  go_wp2_with fail
  go_loopw [11] (fun i wr=>∃j:Nat,j≤32∧i=.int .i64 (j:Int)∧RgW w M B M2 (qXF Kh j) wr) (fun i _=>32-(intOf i).toNat)
  case atStart=>exact⟨0,by omega,rfl,S.out⟩
  case round=>
   obtain⟨j,hj,rfl,hs⟩:=hrel
   have J:=Lh hj
   have S2:=Lh hs
   clear hj hs
   by_cases hlt:j<32
   ·have hD:decide ((j:Int)<32)=true:=by simp;omega
    obtain⟨x,hx⟩:∃x,x=B.getD j 0:=⟨_,rfl⟩
    have XE:=Lh (show x=Kh.getD j 0 by rw [hx,KE.out];simp [kQa,List.getElem?_take,hlt])
    have a1:=qQg S2.out.b1 j (qZ4 _ j (by rw [BL.out];omega))
    rw[←hx]at a1
    have a2:=qQg S2.out.b2 j (qZ4 _ j (by rw [qZV,KL.out];omega))
    have f2:=qQz S2.out.b2 j
    have jb:(j:Int)<32:=by omega
    have J32:=Lh hlt
    clear hx hlt
    go_upto_region 5 with fail
    obtain⟨w4,hw4⟩:∃w4,w4=wr.setCell ⟨M2,j,none⟩ (.int .u8 (x.toNat:Int)):=⟨_,rfl⟩
    rw[←hw4]
    have S3:=Lh (show RgW w M B M2 (qXF Kh (j+1)) w4 by
     have hg:wr.grownBy w4 (some M2):=by rw [hw4];exact qJH _ _ _ _
     have h2:=S2.out.h2
     have h1:=S2.out.h1
     refine⟨S2.out.bel.trans (qQi hg S2.out.bel.size (by rintro g ⟨⟩;omega)),qQd hg (by simp;omega) S2.out.b1,?_,h1,h2⟩
     rw[hw4,←qWN _ _ (by rw [KL.out];exact J32.out),←XE.out,heap_setCell_same _ _ _ _ _ _ S2.out.b2,qYX])
    clear hw4 a1 a2 f2 hD
    go_wp2_with fail
    go_roundw
    case rel=>exact⟨j+1,by have:=J32.out;omega,by go_num,S3.out⟩
    case measure=>have:=J32.out;simp [intOf];omega
   ·have hD:decide ((j:Int)<32)=false:=by simp;omega
    have J32:=Lh (show j=32 by have:=J.out;omega)
    go_wp2_with fail
    go_meet
    refine⟨rfl,?_⟩
    have h:=S2.out
    rw[J32.out,←KL.out,qX4]at h
    exact h
 case rest=>
 obtain⟨rfl,hs⟩:=hcut
 have S:=Lh hs
 clear hs
 obtain⟨w4,hw4⟩:∃x:World,x=wc:=⟨_,rfl⟩
 rw[←hw4]at S ⊢
 clear hw4
 go_upto_region 7 with fail
 go_cut [12] (fun v wx=>∃M,v=.pointer (some ⟨M,0,none⟩)∧wx.heap[M]?=some (.cells (W8 T) 155 (0,0))∧Below w4.heap.size w4 wx)
 case first=>
  have s1:=qQH l
  have s2:=qQH l2
  refine qZ5 (fun W=>Below w4.heap.size w4 W) (.q 0 (.q 1 (.q 2 (.q 3 (.q 6 (.q 8 (.q 9 (.q 12 (.q 13 (.q 16 (.q 17 (.two 4 (.q 5 (.q 7 (.two 10 (.q 11 (.two 14 (.q 15 (.two 18 (.q 19 (.two 20 (.t 21 (.t 22 .done)) 21 (.t 20 (.t 22 .done)))) 21 (.t 18 (.q 19 (.t 20 (.t 22 .done)))))) 21 (.t 14 (.q 15 (.t 18 (.q 19 (.t 20 (.t 22 .done)))))))) 21 (.t 10 (.q 11 (.t 14 (.q 15 (.t 18 (.q 19 (.t 20 (.t 22 .done))))))))))) 21 (.t 4 (.q 5 (.q 7 (.t 10 (.q 11 (.t 14 (.q 15 (.t 18 (.q 19 (.t 20 (.t 22 .done))))))))))))))))))))))) (by kernel_rfl) (by kernel_rfl) (fun _ _ d _ _ h=>by cases d<;>exact h) ?_
  have S0:=Lh S.out
  have S:=Lh (show Below w4.heap.size w4 w4.drew from(Below.refl _ _).drew)
  generalize World.drew w4=w5 at *
  refine qQn rfl rfl S.out (fun W hW=>qQj 37 (.tmp 10) rfl M2 rfl 37 (W8 Kh) (0,0) _ (qQb hW (qQe S0.out.b2) S0.out.b2) Tryz.underlying37 rfl ZK.out) ?_
  simp only [Act.put,pq1,pq2,pq3]
  refine qQn rfl rfl S.out (fun W hW=>by go_simp;rfl) ?_
  simp only [Act.put,pq1,pq2,pq3]
  refine qQn rfl rfl S.out (fun W hW=>by go_simp;rfl) ?_
  simp only [Act.put,pq1,pq2,pq3]
  refine qQn rfl rfl S.out (fun W hW=>by go_simp;rfl) ?_
  simp only [Act.put,pq1,pq2,pq3]
  refine qQn rfl rfl S.out (fun W hW=>by go_simp;rfl) ?_
  simp only [Act.put,pq1,pq2,pq3]
  refine qQn rfl rfl S.out (fun W hW=>by go_simp;rfl) ?_
  simp only [Act.put,pq1,pq2,pq3]
  refine qQn rfl rfl S.out (fun W hW=>by go_simp;rfl) ?_
  simp only [Act.put,pq1,pq2,pq3]
  refine qQn rfl rfl S.out (fun W hW=>by go_simp;rfl) ?_
  simp only [Act.put,pq1,pq2,pq3]
  refine qQn rfl rfl S.out (fun W hW=>by go_simp;rfl) ?_
  simp only [Act.put,pq1,pq2,pq3]
  refine qQn rfl rfl S.out (fun W hW=>by go_simp;rfl) ?_
  simp only [Act.put,pq1,pq2,pq3]
  refine qQn rfl rfl S.out (fun W hW=>by go_simp;rfl) ?_
  simp only [Act.put,pq1,pq2,pq3]
  clear s1 s2
  refine qZh ?_ ?_
  ·
   refine qQx rfl rfl (fun K hK=>?_)
   go_simp
   refine(qVe l.length (by have:=HL.out;have:=HL2.out;omega) _).mono ?_
   rintro e wd ⟨rfl,hw⟩
   rw[hw]
   clear hw wd
   refine hK.out _ _ S.out ?_
   clear hK K
   refine qQn rfl rfl S.out (fun W hW=>qQW 9 _ (.tmp 26) (.tmp 29) rfl _ _ rfl rfl (by have:=HL.out;have:=HL2.out;have:=qQv l.length;have:=qQv l2.length;(try simp only [kQj,qQP]);omega) W) ?_
   simp only [Act.put,pq1,pq2,pq3]
   refine qQn rfl rfl S.out (fun W hW=>qQW 9 _ (.tmp 30) (.tmp 31) rfl _ _ rfl rfl (by have:=HL.out;have:=HL2.out;have:=qQv l.length;have:=qQv l2.length;(try simp only [kQj,qQP]);omega) W) ?_
   simp only [Act.put,pq1,pq2,pq3]
   refine qZh ?_ ?_
   ·
    refine qQx rfl rfl (fun K hK=>?_)
    go_simp
    refine(qVe l2.length (by have:=HL.out;have:=HL2.out;omega) _).mono ?_
    rintro e wd ⟨rfl,hw⟩
    rw[hw]
    clear hw wd
    refine hK.out _ _ S.out ?_
    clear hK K
    refine qQn rfl rfl S.out (fun W hW=>qQW 9 _ (.tmp 32) (.tmp 35) rfl _ _ rfl rfl (by have:=HL.out;have:=HL2.out;have:=qQv l.length;have:=qQv l2.length;(try simp only [kQj,qQP]);omega) W) ?_
    simp only [Act.put,pq1,pq2,pq3]
    refine qZh ?_ ?_
    ·
     refine qQx rfl rfl (fun K hK=>?_)
     go_simp
     refine(qXj l.length (by have:=HL.out;have:=HL2.out;omega) _).mono ?_
     rintro e w5 ⟨rfl,hb⟩
     have S:=Lh (S.out.trans (hb.mono S.out.size))
     try have R:=Lh (qQb hb (qQe R.out) R.out)
     clear hb
     refine hK.out _ _ S.out ?_
     clear hK K
     refine qQn rfl rfl S.out (fun W hW=>qQW 9 _ (.tmp 36) (.tmp 39) rfl _ _ rfl rfl (by have:=HL.out;have:=HL2.out;have:=qQv l.length;have:=qQv l2.length;(try simp only [kQj,qQP]);omega) W) ?_
     simp only [Act.put,pq1,pq2,pq3]
     refine qZh ?_ ?_
     ·
      refine qQx rfl rfl (fun K hK=>?_)
      go_simp
      refine(qXj l2.length (by have:=HL.out;have:=HL2.out;omega) _).mono ?_
      rintro e w5 ⟨rfl,hb⟩
      have S:=Lh (S.out.trans (hb.mono S.out.size))
      try have R:=Lh (qQb hb (qQe R.out) R.out)
      clear hb
      refine hK.out _ _ S.out ?_
      clear hK K
      refine qQn rfl rfl S.out (fun W hW=>qQW 9 _ (.tmp 40) (.tmp 43) rfl _ _ rfl rfl (by have:=HL.out;have:=HL2.out;have:=qQv l.length;have:=qQv l2.length;(try simp only [kQj,qQP]);omega) W) ?_
      simp only [Act.put,pq1,pq2,pq3]
      refine qZh ?_ ?_
      ·
       refine qQx rfl rfl (fun K hK=>?_)
       go_simp
       refine(qWL Kh KL.out _ _ rfl (by have:=HL.out;have:=HL2.out;have:=qQv l.length;have:=qQv l2.length;(try simp only [kQj,qQP]);omega) _).mono ?_
       rw[TP.out]
       rintro e w5 ⟨rfl,hb⟩
       have S:=Lh (S.out.trans (hb.mono S.out.size))
       try have R:=Lh (qQb hb (qQe R.out) R.out)
       clear hb
       refine hK.out _ _ S.out ?_
       clear hK K
       refine qQx rfl rfl (fun K hK=>?_)
       go_simp
       rw[←Z.out]
       generalize hM:Array.size (World.heap w5)=M9
       generalize hw:World.alloc w5 _=w6
       have MS:=Lh (show w4.heap.size≤M9 by rw [←hM];exact S.out.size)
       have R:=Lh (show w6.heap[M9]?=some (.cells (W8 Z16) 155 (0,0)) by rw [←hw];exact qQk _ _ _ hM.symm)
       have S:=Lh (show Below w4.heap.size w4 w6 by rw [←hw];exact S.out.alloc S.out.size _)
       clear hM hw
       generalize hww:w6=w5 at *
       clear hww
       refine hK.out _ _ S.out ?_
       clear hK K
       refine qQx rfl rfl (fun K hK=>?_)
       refine qQN 155 (.tmp 12) (.tmp 45) rfl M9 (W8 T) rfl rfl _ _ R.out (qZK TL.out) (by rw [qQw,qQw,TL.out];rfl) (qZg _) ?_
       intro w9 hz9 hg9 _
       have R:=Lh hz9
       have S:=Lh (S.out.trans (qQi hg9 S.out.size (by rintro g ⟨⟩;exact MS.out)))
       clear hz9 hg9
       refine hK.out _ _ S.out ?_
       clear hK K
       refine qQ8 ?_
       simp only [Act.put]
       go_wp2_with fail
       go_meet
       exact⟨M9,rfl,R.out,S.out⟩
      ·
       refine qQx rfl rfl (fun K hK=>?_)
       go_simp
       rw[←Z.out]
       generalize hM:Array.size (World.heap w5)=M9
       generalize hw:World.alloc w5 _=w6
       have MS:=Lh (show w4.heap.size≤M9 by rw [←hM];exact S.out.size)
       have R:=Lh (show w6.heap[M9]?=some (.cells (W8 Z16) 155 (0,0)) by rw [←hw];exact qQk _ _ _ hM.symm)
       have S:=Lh (show Below w4.heap.size w4 w6 by rw [←hw];exact S.out.alloc S.out.size _)
       clear hM hw
       generalize hww:w6=w5 at *
       clear hww
       refine hK.out _ _ S.out ?_
       clear hK K
       refine qQx rfl rfl (fun K hK=>?_)
       go_simp
       refine(qWL Kh KL.out _ _ rfl (by have:=HL.out;have:=HL2.out;have:=qQv l.length;have:=qQv l2.length;(try simp only [kQj,qQP]);omega) _).mono ?_
       rw[TP.out]
       rintro e w5 ⟨rfl,hb⟩
       have S:=Lh (S.out.trans (hb.mono S.out.size))
       try have R:=Lh (qQb hb (qQe R.out) R.out)
       clear hb
       refine hK.out _ _ S.out ?_
       clear hK K
       refine qQx rfl rfl (fun K hK=>?_)
       refine qQN 155 (.tmp 12) (.tmp 45) rfl M9 (W8 T) rfl rfl _ _ R.out (qZK TL.out) (by rw [qQw,qQw,TL.out];rfl) (qZg _) ?_
       intro w9 hz9 hg9 _
       have R:=Lh hz9
       have S:=Lh (S.out.trans (qQi hg9 S.out.size (by rintro g ⟨⟩;exact MS.out)))
       clear hz9 hg9
       refine hK.out _ _ S.out ?_
       clear hK K
       refine qQ8 ?_
       simp only [Act.put]
       go_wp2_with fail
       go_meet
       exact⟨M9,rfl,R.out,S.out⟩
     ·
      refine qQx rfl rfl (fun K hK=>?_)
      go_simp
      rw[←Z.out]
      generalize hM:Array.size (World.heap w5)=M9
      generalize hw:World.alloc w5 _=w6
      have MS:=Lh (show w4.heap.size≤M9 by rw [←hM];exact S.out.size)
      have R:=Lh (show w6.heap[M9]?=some (.cells (W8 Z16) 155 (0,0)) by rw [←hw];exact qQk _ _ _ hM.symm)
      have S:=Lh (show Below w4.heap.size w4 w6 by rw [←hw];exact S.out.alloc S.out.size _)
      clear hM hw
      generalize hww:w6=w5 at *
      clear hww
      refine hK.out _ _ S.out ?_
      clear hK K
      refine qQx rfl rfl (fun K hK=>?_)
      go_simp
      refine(qXj l2.length (by have:=HL.out;have:=HL2.out;omega) _).mono ?_
      rintro e w5 ⟨rfl,hb⟩
      have S:=Lh (S.out.trans (hb.mono S.out.size))
      try have R:=Lh (qQb hb (qQe R.out) R.out)
      clear hb
      refine hK.out _ _ S.out ?_
      clear hK K
      refine qQn rfl rfl S.out (fun W hW=>qQW 9 _ (.tmp 40) (.tmp 43) rfl _ _ rfl rfl (by have:=HL.out;have:=HL2.out;have:=qQv l.length;have:=qQv l2.length;(try simp only [kQj,qQP]);omega) W) ?_
      simp only [Act.put,pq1,pq2,pq3]
      refine qQx rfl rfl (fun K hK=>?_)
      go_simp
      refine(qWL Kh KL.out _ _ rfl (by have:=HL.out;have:=HL2.out;have:=qQv l.length;have:=qQv l2.length;(try simp only [kQj,qQP]);omega) _).mono ?_
      rw[TP.out]
      rintro e w5 ⟨rfl,hb⟩
      have S:=Lh (S.out.trans (hb.mono S.out.size))
      try have R:=Lh (qQb hb (qQe R.out) R.out)
      clear hb
      refine hK.out _ _ S.out ?_
      clear hK K
      refine qQx rfl rfl (fun K hK=>?_)
      refine qQN 155 (.tmp 12) (.tmp 45) rfl M9 (W8 T) rfl rfl _ _ R.out (qZK TL.out) (by rw [qQw,qQw,TL.out];rfl) (qZg _) ?_
      intro w9 hz9 hg9 _
      have R:=Lh hz9
      have S:=Lh (S.out.trans (qQi hg9 S.out.size (by rintro g ⟨⟩;exact MS.out)))
      clear hz9 hg9
      refine hK.out _ _ S.out ?_
      clear hK K
      refine qQ8 ?_
      simp only [Act.put]
      go_wp2_with fail
      go_meet
      exact⟨M9,rfl,R.out,S.out⟩
    ·
     refine qQx rfl rfl (fun K hK=>?_)
     go_simp
     rw[←Z.out]
     generalize hM:Array.size (World.heap w5)=M9
     generalize hw:World.alloc w5 _=w6
     have MS:=Lh (show w4.heap.size≤M9 by rw [←hM];exact S.out.size)
     have R:=Lh (show w6.heap[M9]?=some (.cells (W8 Z16) 155 (0,0)) by rw [←hw];exact qQk _ _ _ hM.symm)
     have S:=Lh (show Below w4.heap.size w4 w6 by rw [←hw];exact S.out.alloc S.out.size _)
     clear hM hw
     generalize hww:w6=w5 at *
     clear hww
     refine hK.out _ _ S.out ?_
     clear hK K
     refine qQx rfl rfl (fun K hK=>?_)
     go_simp
     refine(qXj l.length (by have:=HL.out;have:=HL2.out;omega) _).mono ?_
     rintro e w5 ⟨rfl,hb⟩
     have S:=Lh (S.out.trans (hb.mono S.out.size))
     try have R:=Lh (qQb hb (qQe R.out) R.out)
     clear hb
     refine hK.out _ _ S.out ?_
     clear hK K
     refine qQn rfl rfl S.out (fun W hW=>qQW 9 _ (.tmp 36) (.tmp 39) rfl _ _ rfl rfl (by have:=HL.out;have:=HL2.out;have:=qQv l.length;have:=qQv l2.length;(try simp only [kQj,qQP]);omega) W) ?_
     simp only [Act.put,pq1,pq2,pq3]
     refine qQx rfl rfl (fun K hK=>?_)
     go_simp
     refine(qXj l2.length (by have:=HL.out;have:=HL2.out;omega) _).mono ?_
     rintro e w5 ⟨rfl,hb⟩
     have S:=Lh (S.out.trans (hb.mono S.out.size))
     try have R:=Lh (qQb hb (qQe R.out) R.out)
     clear hb
     refine hK.out _ _ S.out ?_
     clear hK K
     refine qQn rfl rfl S.out (fun W hW=>qQW 9 _ (.tmp 40) (.tmp 43) rfl _ _ rfl rfl (by have:=HL.out;have:=HL2.out;have:=qQv l.length;have:=qQv l2.length;(try simp only [kQj,qQP]);omega) W) ?_
     simp only [Act.put,pq1,pq2,pq3]
     refine qQx rfl rfl (fun K hK=>?_)
     go_simp
     refine(qWL Kh KL.out _ _ rfl (by have:=HL.out;have:=HL2.out;have:=qQv l.length;have:=qQv l2.length;(try simp only [kQj,qQP]);omega) _).mono ?_
     rw[TP.out]
     rintro e w5 ⟨rfl,hb⟩
     have S:=Lh (S.out.trans (hb.mono S.out.size))
     try have R:=Lh (qQb hb (qQe R.out) R.out)
     clear hb
     refine hK.out _ _ S.out ?_
     clear hK K
     refine qQx rfl rfl (fun K hK=>?_)
     refine qQN 155 (.tmp 12) (.tmp 45) rfl M9 (W8 T) rfl rfl _ _ R.out (qZK TL.out) (by rw [qQw,qQw,TL.out];rfl) (qZg _) ?_
     intro w9 hz9 hg9 _
     have R:=Lh hz9
     have S:=Lh (S.out.trans (qQi hg9 S.out.size (by rintro g ⟨⟩;exact MS.out)))
     clear hz9 hg9
     refine hK.out _ _ S.out ?_
     clear hK K
     refine qQ8 ?_
     simp only [Act.put]
     go_wp2_with fail
     go_meet
     exact⟨M9,rfl,R.out,S.out⟩
   ·
    refine qQx rfl rfl (fun K hK=>?_)
    go_simp
    rw[←Z.out]
    generalize hM:Array.size (World.heap w5)=M9
    generalize hw:World.alloc w5 _=w6
    have MS:=Lh (show w4.heap.size≤M9 by rw [←hM];exact S.out.size)
    have R:=Lh (show w6.heap[M9]?=some (.cells (W8 Z16) 155 (0,0)) by rw [←hw];exact qQk _ _ _ hM.symm)
    have S:=Lh (show Below w4.heap.size w4 w6 by rw [←hw];exact S.out.alloc S.out.size _)
    clear hM hw
    generalize hww:w6=w5 at *
    clear hww
    refine hK.out _ _ S.out ?_
    clear hK K
    refine qQx rfl rfl (fun K hK=>?_)
    go_simp
    refine(qVe l2.length (by have:=HL.out;have:=HL2.out;omega) _).mono ?_
    rintro e wd ⟨rfl,hw⟩
    rw[hw]
    clear hw wd
    refine hK.out _ _ S.out ?_
    clear hK K
    refine qQn rfl rfl S.out (fun W hW=>qQW 9 _ (.tmp 32) (.tmp 35) rfl _ _ rfl rfl (by have:=HL.out;have:=HL2.out;have:=qQv l.length;have:=qQv l2.length;(try simp only [kQj,qQP]);omega) W) ?_
    simp only [Act.put,pq1,pq2,pq3]
    refine qQx rfl rfl (fun K hK=>?_)
    go_simp
    refine(qXj l.length (by have:=HL.out;have:=HL2.out;omega) _).mono ?_
    rintro e w5 ⟨rfl,hb⟩
    have S:=Lh (S.out.trans (hb.mono S.out.size))
    try have R:=Lh (qQb hb (qQe R.out) R.out)
    clear hb
    refine hK.out _ _ S.out ?_
    clear hK K
    refine qQn rfl rfl S.out (fun W hW=>qQW 9 _ (.tmp 36) (.tmp 39) rfl _ _ rfl rfl (by have:=HL.out;have:=HL2.out;have:=qQv l.length;have:=qQv l2.length;(try simp only [kQj,qQP]);omega) W) ?_
    simp only [Act.put,pq1,pq2,pq3]
    refine qQx rfl rfl (fun K hK=>?_)
    go_simp
    refine(qXj l2.length (by have:=HL.out;have:=HL2.out;omega) _).mono ?_
    rintro e w5 ⟨rfl,hb⟩
    have S:=Lh (S.out.trans (hb.mono S.out.size))
    try have R:=Lh (qQb hb (qQe R.out) R.out)
    clear hb
    refine hK.out _ _ S.out ?_
    clear hK K
    refine qQn rfl rfl S.out (fun W hW=>qQW 9 _ (.tmp 40) (.tmp 43) rfl _ _ rfl rfl (by have:=HL.out;have:=HL2.out;have:=qQv l.length;have:=qQv l2.length;(try simp only [kQj,qQP]);omega) W) ?_
    simp only [Act.put,pq1,pq2,pq3]
    refine qQx rfl rfl (fun K hK=>?_)
    go_simp
    refine(qWL Kh KL.out _ _ rfl (by have:=HL.out;have:=HL2.out;have:=qQv l.length;have:=qQv l2.length;(try simp only [kQj,qQP]);omega) _).mono ?_
    rw[TP.out]
    rintro e w5 ⟨rfl,hb⟩
    have S:=Lh (S.out.trans (hb.mono S.out.size))
    try have R:=Lh (qQb hb (qQe R.out) R.out)
    clear hb
    refine hK.out _ _ S.out ?_
    clear hK K
    refine qQx rfl rfl (fun K hK=>?_)
    refine qQN 155 (.tmp 12) (.tmp 45) rfl M9 (W8 T) rfl rfl _ _ R.out (qZK TL.out) (by rw [qQw,qQw,TL.out];rfl) (qZg _) ?_
    intro w9 hz9 hg9 _
    have R:=Lh hz9
    have S:=Lh (S.out.trans (qQi hg9 S.out.size (by rintro g ⟨⟩;exact MS.out)))
    clear hz9 hg9
    refine hK.out _ _ S.out ?_
    clear hK K
    refine qQ8 ?_
    simp only [Act.put]
    go_wp2_with fail
    go_meet
    exact⟨M9,rfl,R.out,S.out⟩
  ·
   refine qQx rfl rfl (fun K hK=>?_)
   go_simp
   rw[←Z.out]
   generalize hM:Array.size (World.heap w5)=M9
   generalize hw:World.alloc w5 _=w6
   have MS:=Lh (show w4.heap.size≤M9 by rw [←hM];exact S.out.size)
   have R:=Lh (show w6.heap[M9]?=some (.cells (W8 Z16) 155 (0,0)) by rw [←hw];exact qQk _ _ _ hM.symm)
   have S:=Lh (show Below w4.heap.size w4 w6 by rw [←hw];exact S.out.alloc S.out.size _)
   clear hM hw
   generalize hww:w6=w5 at *
   clear hww
   refine hK.out _ _ S.out ?_
   clear hK K
   refine qQx rfl rfl (fun K hK=>?_)
   go_simp
   refine(qVe l.length (by have:=HL.out;have:=HL2.out;omega) _).mono ?_
   rintro e wd ⟨rfl,hw⟩
   rw[hw]
   clear hw wd
   refine hK.out _ _ S.out ?_
   clear hK K
   refine qQn rfl rfl S.out (fun W hW=>qQW 9 _ (.tmp 26) (.tmp 29) rfl _ _ rfl rfl (by have:=HL.out;have:=HL2.out;have:=qQv l.length;have:=qQv l2.length;(try simp only [kQj,qQP]);omega) W) ?_
   simp only [Act.put,pq1,pq2,pq3]
   refine qQn rfl rfl S.out (fun W hW=>qQW 9 _ (.tmp 30) (.tmp 31) rfl _ _ rfl rfl (by have:=HL.out;have:=HL2.out;have:=qQv l.length;have:=qQv l2.length;(try simp only [kQj,qQP]);omega) W) ?_
   simp only [Act.put,pq1,pq2,pq3]
   refine qQx rfl rfl (fun K hK=>?_)
   go_simp
   refine(qVe l2.length (by have:=HL.out;have:=HL2.out;omega) _).mono ?_
   rintro e wd ⟨rfl,hw⟩
   rw[hw]
   clear hw wd
   refine hK.out _ _ S.out ?_
   clear hK K
   refine qQn rfl rfl S.out (fun W hW=>qQW 9 _ (.tmp 32) (.tmp 35) rfl _ _ rfl rfl (by have:=HL.out;have:=HL2.out;have:=qQv l.length;have:=qQv l2.length;(try simp only [kQj,qQP]);omega) W) ?_
   simp only [Act.put,pq1,pq2,pq3]
   refine qQx rfl rfl (fun K hK=>?_)
   go_simp
   refine(qXj l.length (by have:=HL.out;have:=HL2.out;omega) _).mono ?_
   rintro e w5 ⟨rfl,hb⟩
   have S:=Lh (S.out.trans (hb.mono S.out.size))
   try have R:=Lh (qQb hb (qQe R.out) R.out)
   clear hb
   refine hK.out _ _ S.out ?_
   clear hK K
   refine qQn rfl rfl S.out (fun W hW=>qQW 9 _ (.tmp 36) (.tmp 39) rfl _ _ rfl rfl (by have:=HL.out;have:=HL2.out;have:=qQv l.length;have:=qQv l2.length;(try simp only [kQj,qQP]);omega) W) ?_
   simp only [Act.put,pq1,pq2,pq3]
   refine qQx rfl rfl (fun K hK=>?_)
   go_simp
   refine(qXj l2.length (by have:=HL.out;have:=HL2.out;omega) _).mono ?_
   rintro e w5 ⟨rfl,hb⟩
   have S:=Lh (S.out.trans (hb.mono S.out.size))
   try have R:=Lh (qQb hb (qQe R.out) R.out)
   clear hb
   refine hK.out _ _ S.out ?_
   clear hK K
   refine qQn rfl rfl S.out (fun W hW=>qQW 9 _ (.tmp 40) (.tmp 43) rfl _ _ rfl rfl (by have:=HL.out;have:=HL2.out;have:=qQv l.length;have:=qQv l2.length;(try simp only [kQj,qQP]);omega) W) ?_
   simp only [Act.put,pq1,pq2,pq3]
   refine qQx rfl rfl (fun K hK=>?_)
   go_simp
   refine(qWL Kh KL.out _ _ rfl (by have:=HL.out;have:=HL2.out;have:=qQv l.length;have:=qQv l2.length;(try simp only [kQj,qQP]);omega) _).mono ?_
   rw[TP.out]
   rintro e w5 ⟨rfl,hb⟩
   have S:=Lh (S.out.trans (hb.mono S.out.size))
   try have R:=Lh (qQb hb (qQe R.out) R.out)
   clear hb
   refine hK.out _ _ S.out ?_
   clear hK K
   refine qQx rfl rfl (fun K hK=>?_)
   refine qQN 155 (.tmp 12) (.tmp 45) rfl M9 (W8 T) rfl rfl _ _ R.out (qZK TL.out) (by rw [qQw,qQw,TL.out];rfl) (qZg _) ?_
   intro w9 hz9 hg9 _
   have R:=Lh hz9
   have S:=Lh (S.out.trans (qQi hg9 S.out.size (by rintro g ⟨⟩;exact MS.out)))
   clear hz9 hg9
   refine hK.out _ _ S.out ?_
   clear hK K
   refine qQ8 ?_
   simp only [Act.put]
   go_wp2_with fail
   go_meet
   exact⟨M9,rfl,R.out,S.out⟩
 case rest=>
 obtain⟨M9,rfl,hr,hb⟩:=hcut
 have R:=Lh (RdB.row hr)
 have BF:=Lh (S.out.bel.trans (hb.mono S.out.bel.size))
 clear hr hb
 go_wp2_with (first
  | (refine qQa rfl (qXs 155 (.tmp 12) rfl 16 5 Tryz.underlying155 I0.out M9 rfl _) ?_)
  | (refine qQa rfl (qZo 22 9 (.tmp 46) rfl Tryz.underlying22 Tryz.underlying5 Tryz.underlying9 R.out 16 16 TL.out rfl) ?_))
 go_ret
 exact⟨rfl,BF.out⟩
theorem rseal_any (k n:List UInt8) (hk:k.length=32) (hn:n.length=12) (l l2:List UInt8) (hl:l.length≤1000) (hl2:l2.length≤1000) (w:World) :
  Calls Tryz.prog 57 #[.string (strB k),.string (strB n),.string (strB l),.string (strB l2)] w fun e w'=>e=.returned (.string (strB (qWI k n l l2)))∧Below w.heap.size w w':=by
 have HK:=Lh hk
 have HN:=Lh hn
 have HL:=Lh hl
 have HL2:=Lh hl2
 obtain⟨X,hX⟩:∃X,X=qQY k n 1 l2:=⟨_,rfl⟩
 obtain⟨T,hT⟩:∃T,T=tagL k n l X:=⟨_,rfl⟩
 have XE:=Lh hX
 have TE:=Lh hT
 have XL:=Lh (show X.length≤1000 by rw [hX,qQX];exact hl2)
 have TL:=Lh (show T.length=16 by rw [hT,qXq])
 have SE:=Lh (show X++T=qWI k n l l2 by rw [hT,hX];rfl)
 rw[←SE.out]
 clear hk hn hl hl2 hX hT
 go_enter Tryz.func57,Tryz.ntmps57
 go_wp2_with fail
 refine(qJu k n HK.out HN.out 1 l2 HL2.out w).mono ?_
 rw[←XE.out]
 rintro e w1 ⟨rfl,hb⟩
 have S:=Lh hb
 clear hb
 go_wp2_with fail
 refine(rtag_any k n HK.out HN.out l X HL.out XL.out w1).mono ?_
 rw[←TE.out]
 rintro e w2 ⟨rfl,hb⟩
 have S:=Lh (S.out.trans (hb.mono S.out.size))
 clear hb
 go_wp2_with (refine qQa rfl (qQW 9 _ (.tmp 14) (.tmp 19) rfl X T rfl rfl (by have:=XL.out;have:=TL.out;omega) _) ?_)
 go_ret
 exact⟨rfl,S.out⟩
theorem qKJ {P:Program} {o:Oper} {a:Act} (t t2:TypeId) (x y:Operand) (ho:o.op=.binOp .neq t x y t2) (l l':List UInt8) (h:l≠l') (hx:a.eval x=.string (strB l)) (hy:a.eval y=.string (strB l')) (W:World):(execOp a.eval o).run P W=.ok (.value (.bool true)) W:=by
 have e:((strB l).toList==(strB l').toList)=false:=by rw [qJq];simpa using h
 unfold execOp
 simp only [ho,hx,hy,Sem.run_bind,Sem.run_pure]
 go_simp
def ROpenP (w:World) (r:Option (List UInt8)) (e:Ending) (w':World):Prop:=e=.returned (.tuple #[.string (strB (r.getD [])),.bool r.isSome])∧Below w.heap.size w w'
theorem ropen_any (k n:List UInt8) (hk:k.length=32) (hn:n.length=12) (l l2:List UInt8) (q:Nat) (hq:l2.length=q) (hl:l.length≤1000) (hl2:q≤1000) (w:World) :
  Calls Tryz.prog 61 #[.string (strB k),.string (strB n),.string (strB l),.string (strB l2)] w (ROpenP w (qWO k n l l2)):=by
 have HK:=Lh hk
 have HN:=Lh hn
 have HL:=Lh hl
 have HQ:=Lh hq
 have HQ2:=Lh hl2
 have SZ:=qQH l2
 rw[hq]at SZ
 have qb:(q:Int)≤1000:=by omega
 clear hk hn hl hq hl2
 by_cases h16:q<16
 ·have OE:=Lh (show qWO k n l l2=none by rw [qWO,if_pos (by rw [HQ.out];exact h16)])
  have hD:decide ((q:Int)-16<0)=true:=by simp;omega
  rw[OE.out]
  go_enter Tryz.func61,Tryz.ntmps61
  go_upto_region 2 with fail
  clear SZ
  have B:=Lh (show Below w.heap.size w w.drew from(Below.refl _ _).drew)
  refine qQu (fun W=>Below w.heap.size w W) [(true,0),(true,1),(true,2),(true,3),(true,4),(true,5),(true,6),(true,7),(true,8),(true,10),(true,11),(true,12),(false,9),(true,13),(true,14)] (by kernel_rfl) (by kernel_rfl) (fun _ _ d _ _ h=>by cases d<;>exact h) ?_
  simp only [kQl,kQm,kQd,kQg,kQe,kQo]
  refine qQc (by rfl) B.out (fun W hW=>by go_simp;rfl) ?_
  simp only [Act.put,pq1,pq2,pq3]
  refine qQc (by rfl) B.out (fun W hW=>by go_simp;rfl) ?_
  simp only [Act.put,pq1,pq2,pq3]
  refine qQc (by rfl) B.out (fun W hW=>by go_simp;rfl) ?_
  simp only [Act.put,pq1,pq2,pq3]
  refine qQ2 (by rfl) B.out ?_
  simp only [Act.put,pq1,pq2,pq3]
  refine qQ2 (by rfl) B.out ?_
  simp only [Act.put,pq1,pq2,pq3]
  refine qQ2 (by rfl) B.out ?_
  simp only [Act.put,pq1,pq2,pq3]
  refine qQ2 (by rfl) B.out ?_
  simp only [Act.put,pq1,pq2,pq3]
  refine qQ2 (by rfl) B.out ?_
  simp only [Act.put,pq1,pq2,pq3]
  refine qQ2 (by rfl) B.out ?_
  simp only [Act.put,pq1,pq2,pq3]
  refine qQ2 (by rfl) B.out ?_
  simp only [Act.put,pq1,pq2,pq3]
  refine qQ2 (by rfl) B.out ?_
  simp only [Act.put,pq1,pq2,pq3]
  refine qQ2 (by rfl) B.out ?_
  simp only [Act.put,pq1,pq2,pq3]
  refine planG_ts (by rfl) B.out ?_
  simp only [Act.put,pq1,pq2,pq3]
  refine qQ2 (by rfl) B.out ?_
  simp only [Act.put,pq1,pq2,pq3]
  refine qQc (by rfl) B.out (fun W hW=>by go_simp;rfl) ?_
  simp only [Act.put,pq1,pq2,pq3]
  refine qQG ?_
  go_wp2_with fail
  go_ret2
  exact⟨rfl,B.out⟩
 ·obtain⟨at_,hat⟩:∃a,q=a+16:=⟨q-16,by omega⟩
  have e1:(q:Int)-16=(at_:Int):=by omega
  have hD:decide ((at_:Int)<0)=false:=by simp
  have AE:=Lh hat
  obtain⟨X,hX⟩:∃X,X=l2.take at_:=⟨_,rfl⟩
  obtain⟨T,hT⟩:∃T,T=tagL k n l X:=⟨_,rfl⟩
  obtain⟨Y,hY⟩:∃Y,Y=l2.drop at_:=⟨_,rfl⟩
  have TE:=Lh hT
  have XE:=Lh hX.symm
  have YE:=Lh hY.symm
  have XL:=Lh (show X.length≤1000 by rw [hX,kQp,HQ.out];have:=HQ2.out;omega)
  have RE:=Lh (show qWO k n l l2=if T=Y then some (qQY k n 1 X)else none by
   rw[qWO,if_neg (by rw [HQ.out,AE.out];omega),hT,hY,hX,show l2.length-16=at_ by rw [HQ.out,AE.out];omega])
  rw[RE.out]
  clear hat h16 hX hT hY
  go_enter Tryz.func61,Tryz.ntmps61
  go_upto_region 2 with fail
  clear SZ e1
  have B:=Lh (show Below w.heap.size w w.drew from(Below.refl _ _).drew)
  by_cases hTY:T=Y
  ·rw [if_pos hTY]
   have TY:=Lh hTY
   clear hTY
   refine qQu (fun W=>Below w.heap.size w W) [(true,0),(true,1),(true,2),(true,3),(true,4),(true,5),(true,6),(true,7),(true,8),(true,10),(true,11),(true,12),(false,9),(true,13),(true,14)] (by kernel_rfl) (by kernel_rfl) (fun _ _ d _ _ h=>by cases d<;>exact h) ?_
   simp only [kQl,kQm,kQd,kQg,kQe,kQo]
   refine qQc (by rfl) B.out (fun W hW=>by go_simp;rfl) ?_
   simp only [Act.put,pq1,pq2,pq3]
   refine qQc (by rfl) B.out (fun W hW=>by go_simp;rfl) ?_
   simp only [Act.put,pq1,pq2,pq3]
   refine qQc (by rfl) B.out (fun W hW=>by go_simp;rfl) ?_
   simp only [Act.put,pq1,pq2,pq3]
   refine qQc (by rfl) B.out (fun W hW=>by go_simp;rfl) ?_
   simp only [Act.put,pq1,pq2,pq3]
   refine qQc (by rfl) B.out (fun W hW=>by go_simp;rfl) ?_
   simp only [Act.put,pq1,pq2,pq3]
   refine qQc (by rfl) B.out (fun W hW=>by go_simp;rfl) ?_
   simp only [Act.put,pq1,pq2,pq3]
   refine qQc (by rfl) B.out (fun W hW=>by go_simp;rfl) ?_
   simp only [Act.put,pq1,pq2,pq3]
   refine qQc (by rfl) B.out (fun W hW=>by go_simp;rfl) ?_
   simp only [Act.put,pq1,pq2,pq3]
   refine qQc (by rfl) B.out (fun W hW=>qWJ 9 (.tmp 20) (.tmp 21) rfl Tryz.underlying9 l2 at_ (by rw [HQ.out,AE.out];omega) rfl rfl W) ?_
   simp only [Act.put,pq1,pq2,pq3]
   rw[XE.out]
   refine qQc (by rfl) B.out (fun W hW=>by go_simp;rfl) ?_
   simp only [Act.put,pq1,pq2,pq3]
   refine qQc (by rfl) B.out (fun W hW=>by go_simp;rfl) ?_
   simp only [Act.put,pq1,pq2,pq3]
   refine qQc (by rfl) B.out (fun W hW=>qXw 9 (.tmp 24) (.tmp 25) rfl Tryz.underlying9 l2 at_ (by rw [HQ.out,AE.out];omega) rfl rfl W) ?_
   simp only [Act.put,pq1,pq2,pq3]
   rw[YE.out]
   refine qQE (by rfl) (fun K hK=>?_)
   go_simp
   refine(rtag_any k n HK.out HN.out l X HL.out XL.out _).mono ?_
   rw[←TE.out]
   rintro e w1 ⟨rfl,hb⟩
   have B:=Lh (B.out.trans (hb.mono B.out.size))
   clear hb
   refine hK.out _ _ B.out ?_
   clear hK K
   refine qQc (by rfl) B.out (fun W hW=>qXo 9 9 (.tmp 23) (.tmp 26) rfl T Y TY.out rfl rfl W) ?_
   simp only [Act.put,pq1,pq2,pq3]
   refine qQc (by rfl) B.out (fun W hW=>by go_simp;rfl) ?_
   simp only [Act.put,pq1,pq2,pq3]
   refine qQG ?_
   go_wp2_with (refine qQa rfl (qWJ 9 (.tmp 31) (.tmp 32) rfl Tryz.underlying9 l2 at_ (by rw [HQ.out,AE.out];omega) rfl rfl _) ?_)
   rw[XE.out]
   refine(qJu k n HK.out HN.out 1 X XL.out w1).mono ?_
   rintro e w2 ⟨rfl,hb⟩
   have B:=Lh (B.out.trans (hb.mono B.out.size))
   clear hb
   go_wp2_with fail
   go_ret2
   exact⟨rfl,B.out⟩
  ·rw [if_neg hTY]
   have TY:=Lh hTY
   clear hTY
   refine qQu (fun W=>Below w.heap.size w W) [(true,0),(true,1),(true,2),(true,3),(true,4),(true,5),(true,6),(true,7),(true,8),(true,10),(true,11),(true,12),(false,9),(true,13),(true,14)] (by kernel_rfl) (by kernel_rfl) (fun _ _ d _ _ h=>by cases d<;>exact h) ?_
   simp only [kQl,kQm,kQd,kQg,kQe,kQo]
   refine qQc (by rfl) B.out (fun W hW=>by go_simp;rfl) ?_
   simp only [Act.put,pq1,pq2,pq3]
   refine qQc (by rfl) B.out (fun W hW=>by go_simp;rfl) ?_
   simp only [Act.put,pq1,pq2,pq3]
   refine qQc (by rfl) B.out (fun W hW=>by go_simp;rfl) ?_
   simp only [Act.put,pq1,pq2,pq3]
   refine qQc (by rfl) B.out (fun W hW=>by go_simp;rfl) ?_
   simp only [Act.put,pq1,pq2,pq3]
   refine qQc (by rfl) B.out (fun W hW=>by go_simp;rfl) ?_
   simp only [Act.put,pq1,pq2,pq3]
   refine qQc (by rfl) B.out (fun W hW=>by go_simp;rfl) ?_
   simp only [Act.put,pq1,pq2,pq3]
   refine qQc (by rfl) B.out (fun W hW=>by go_simp;rfl) ?_
   simp only [Act.put,pq1,pq2,pq3]
   refine qQc (by rfl) B.out (fun W hW=>by go_simp;rfl) ?_
   simp only [Act.put,pq1,pq2,pq3]
   refine qQc (by rfl) B.out (fun W hW=>qWJ 9 (.tmp 20) (.tmp 21) rfl Tryz.underlying9 l2 at_ (by rw [HQ.out,AE.out];omega) rfl rfl W) ?_
   simp only [Act.put,pq1,pq2,pq3]
   rw[XE.out]
   refine qQc (by rfl) B.out (fun W hW=>by go_simp;rfl) ?_
   simp only [Act.put,pq1,pq2,pq3]
   refine qQc (by rfl) B.out (fun W hW=>by go_simp;rfl) ?_
   simp only [Act.put,pq1,pq2,pq3]
   refine qQc (by rfl) B.out (fun W hW=>qXw 9 (.tmp 24) (.tmp 25) rfl Tryz.underlying9 l2 at_ (by rw [HQ.out,AE.out];omega) rfl rfl W) ?_
   simp only [Act.put,pq1,pq2,pq3]
   rw[YE.out]
   refine qQE (by rfl) (fun K hK=>?_)
   go_simp
   refine(rtag_any k n HK.out HN.out l X HL.out XL.out _).mono ?_
   rw[←TE.out]
   rintro e w1 ⟨rfl,hb⟩
   have B:=Lh (B.out.trans (hb.mono B.out.size))
   clear hb
   refine hK.out _ _ B.out ?_
   clear hK K
   refine qQc (by rfl) B.out (fun W hW=>qKJ 9 9 (.tmp 23) (.tmp 26) rfl T Y TY.out rfl rfl W) ?_
   simp only [Act.put,pq1,pq2,pq3]
   refine qQc (by rfl) B.out (fun W hW=>by go_simp;rfl) ?_
   simp only [Act.put,pq1,pq2,pq3]
   refine qQG ?_
   go_wp2_with fail
   go_ret2
   exact⟨rfl,B.out⟩
def qXX (k bs t:List UInt8):Nat→RBx→RBx×Option (List UInt8)
 | 0,s=>(s,none)
 | i+1,s=>
  if qWu s.L (qQR s.F s.u (t.length+28))then qXX k bs t i { s with u:=s.u+(t.length+28) }
  else({ s with u:=s.u+(t.length+28),L:=s.L++[⟨qQR s.F s.u (t.length+28),k,bs,t⟩] },some (qQR s.F s.u (t.length+28)))
def qX9 (s:RBx) (k bs t:List UInt8):RBx×Option (List UInt8):=
 if s.mode=0 then({ s with u:=s.u+12,L:=s.L++[⟨qQR s.F s.u 12++qWI k (qQR s.F s.u 12) bs t,[],[],[]⟩] },some (qQR s.F s.u 12++qWI k (qQR s.F s.u 12) bs t))
 else qXX k bs t 8 s
def RSealP (w:World) (A0:Option Addr) (r:RBx×Option (List UInt8)) (e:Ending) (w':World):Prop:=
 ∃A n c,e=.returned (.tuple #[.agg (RBC r.1.mode r.1.F r.1.u A n c),.string (strB (r.2.getD [])),.int .i64 (if r.2.isSome then 0 else 15)])∧RdV w' A (EC r.1.L)∧r.1.L.length=n∧n≤c∧(∀a,A=some a→(w.heap.size≤a.block∧a.block<w'.heap.size)∨A0=some a)∧Below w.heap.size w w'
theorem EntK:SlK Tryz.prog 30 124 (.agg #[.string ⟨#[]⟩,.string ⟨#[]⟩,.string ⟨#[]⟩,.string ⟨#[]⟩]) 4 64:=⟨Tryz.underlying30,by kernel_rfl,rfl,by omega⟩
theorem rbseal_real (F:List UInt8) (u:Nat) (A:Option Addr) (n c:Nat) (L:List REnt) (hn:L.length=n) (hc:n≤c) (w:World) (hR:RdV w A (EC L)) (k bs t:List UInt8) (hk:k.length=32) (hbs:bs.length≤1000) (ht:t.length≤1000)
  (hF:F.length≤2900) (hu:u≤800000) (hL:n≤10000) :
  Calls Tryz.prog 34 #[.agg (RBC 0 F u A n c),.string (strB k),.string (strB bs),.string (strB t)] w (RSealP w A (qX9 ⟨0,F,u,L⟩ k bs t)):=by
 have HN:=Lh hn
 have HC:=Lh hc
 have RL:=Lh hR
 have HK:=Lh hk
 have HB:=Lh hbs
 have HT:=Lh ht
 have HF:=Lh hF
 have HU:=Lh hu
 have HL:=Lh hL
 have s1:=qQH t
 have s2:=qQH bs
 have d1:decide ((65536:Int)<(t.length:Int))=false:=by simp;omega
 have d2:decide ((65536:Int)<(bs.length:Int))=false:=by simp;omega
 have d3:decide (65536<t.length)=false:=by simp;omega
 have d4:decide (65536<bs.length)=false:=by simp;omega
 obtain⟨N,hN⟩:∃N,N=qQR F u 12:=⟨_,rfl⟩
 have NE:=Lh hN
 have NL:=Lh (show N.length=12 by rw [hN,qQy])
 obtain⟨T,hT⟩:∃T,T=qWI k N bs t:=⟨_,rfl⟩
 have TE:=Lh hT
 have TL:=Lh (show T.length=t.length+16 by rw [hT,qXS])
 obtain⟨X,hX⟩:∃X,X=N++T:=⟨_,rfl⟩
 have XE:=Lh hX
 obtain⟨r,hr⟩:∃r,r=qX9 ⟨0,F,u,L⟩ k bs t:=⟨_,rfl⟩
 have SE:=Lh (show r=(⟨0,F,u+12,L++[⟨X,[],[],[]⟩]⟩,some X) by rw [hr,qX9,if_pos rfl,hX,hT,hN])
 rw[←hr]
 have hcat:¬9223372036854775807<(strB N).size+(strB T).size:=by rw [qQH,qQH,NL.out,TL.out];omega
 obtain⟨cs,hcs⟩:∃cs,cs=RBC 0 F u A n c:=⟨_,rfl⟩
 have CE:=Lh hcs
 have CZ:=Lh (show(Tryz.prog.info? 32).map (·.size)=some cs.size by rw [hcs];exact qQK)
 rw[←hcs]
 clear hn hc hR hk hbs ht hF hu hL hN hT hcs hr hX
 go_enter Tryz.func34,Tryz.ntmps34
 go_upto_region 1 with fail
 generalize hw1:World.alloc w _=w1
 generalize hw2:World.alloc w1 _=w2
 have R2:=Lh (show w2.heap[w.heap.size]?=some (.cells cs 32 (0,0)) by rw [←hw2,←hw1];exact qQM _ _ _ (by simp) (qQk _ _ _ rfl))
 have Z2:=Lh (show w2.heap[w.heap.size+1]?=some (.cells RBZ 32 (0,0)) by rw [←hw2,←hw1];exact qQk _ _ _ (by simp))
 have B2:=Lh (show Below w.heap.size w w2 by rw [←hw2,←hw1];exact(qQh _ _).trans ((qQh _ _).mono (by simp)))
 clear hw1 hw2
 have c0:=qQg R2.out 0 (show cs[0]?=some (.int .i64 0) by rw [CE.out];rfl)
 go_upto_region 4 with fail
 clear c0 d1 d2 d3 d4 s1 s2
 go_wp2_with (refine qQa rfl (qQj 32 (.tmp 4) rfl w.heap.size rfl 32 cs (0,0) _ R2.out Tryz.underlying32 rfl CZ.out) ?_)
 rw[CE.out]
 refine(qVq 0 F u A n c HF.out (by have:=HU.out;omega) 12 (by omega) w2).mono ?_
 rw[←CE.out,←NE.out]
 rintro e w3 ⟨rfl,hb3⟩
 obtain⟨ds,hds⟩:∃ds,ds=RBC 0 F (u+12) A n c:=⟨_,rfl⟩
 have DE:=Lh hds
 have DZ:=Lh (show(Tryz.prog.info? 32).map (·.size)=some ds.size by rw [hds];exact qQK)
 have DO:=Lh (show ds.all (·.oneCell')=true by rw [hds];exact qQ3 _ _ _ _ _ _)
 have DS:=Lh (show ds.size=4 by rw [hds];rfl)
 rw[←hds]
 have Z3:=Lh (qQb hb3 (qQe Z2.out) Z2.out)
 have B3:=Lh (B2.out.trans (hb3.mono B2.out.size))
 clear hb3 hds
 go_upto_region 5 with (refine qQp rfl rfl 32 (.tmp 11) (.tmp 32) rfl ds rfl rfl DZ.out ?c1 DO.out ?_)
 case c1=>rw [DS.out];rfl
 generalize hM:Array.size (World.heap w3)=M
 generalize hw4:World.alloc w3 _=w4
 have R4:=Lh (show w4.heap[M]?=some (.cells ds 32 (0,0)) by rw [←hw4];exact qQk _ _ _ hM.symm)
 have Z4:=Lh (show w4.heap[w.heap.size+1]?=some (.cells RBZ 32 (0,0)) by rw [←hw4];exact qQM _ _ _ (qQe Z3.out) Z3.out)
 have B4:=Lh (show Below w.heap.size w w4 by rw [←hw4];exact B3.out.alloc B3.out.size _)
 have MG:=Lh (show w.heap.size+1<M by rw [←hM];exact qQe Z3.out)
 clear hM hw4
 go_wp2_with fail
 refine(rseal_any k N HK.out NL.out bs t HB.out HT.out w4).mono ?_
 rw[←TE.out]
 rintro e w5 ⟨rfl,hb5⟩
 have R5:=Lh (qQb hb5 (qQe R4.out) R4.out)
 have Z5:=Lh (qQb hb5 (qQe Z4.out) Z4.out)
 have B5:=Lh (B4.out.trans (hb5.mono B4.out.size))
 clear hb5
 go_upto_region 6 with fail
 rw[qWX,←XE.out]
 clear hcat
 have c3:=qQg R5.out 3 (show ds[3]?=some (.slice A n c) by rw [DE.out];rfl)
 have C3:=Lh c3
 have M5:=Lh (qQe R5.out)
 clear c3
 refine wp_region_list ?_
 simp only [kQf]
 refine qQs (by rfl) (fun K hK=>?_)
 go_simp
 refine hK.out _ _ ?_
 clear hK K
 refine qQa (by rfl) (by go_simp;rfl) ?_
 simp only [Act.put,pq1,pq2,pq3]
 refine qQa (by rfl) (qQq 30 (.tmp 42) rfl _ Tryz.underlying30 rfl rfl (qVT C3.out _)) ?_
 simp only [Act.put,pq1,pq2,pq3]
 refine qQs (by rfl) (fun K hK=>?_)
 refine qJl EntK (.tmp 41) (.tmp 43) rfl w5.heap.size _ 0 [] (EC L) A n c rfl rfl (by rw [EC_length,HN.out]) (OwnK.made w5 w5.heap.size _ 4 (kQh _)) ((RL.out.keep B5.out).keep (qQh _ _)) (EC_one L) (by simp) (by have:=HL.out;omega) (by have:=HL.out;omega) ?_
 intro v6 w6 ho6 hg6 _
 have O6:=Lh (show OwnK w6 w5.heap.size 124 4 v6 n (EC L) by simpa using ho6)
 have R6:=Lh (show w6.heap[M]?=some (.cells ds 32 (0,0))from qQd hg6 (fun e=>by have e:M=w5.heap.size:=Option.some.inj e;have:=M5.out;omega) (qQM _ _ _ M5.out R5.out))
 have Z6:=Lh (show w6.heap[w.heap.size+1]?=some (.cells RBZ 32 (0,0))from qQd hg6 (fun e=>by have e:w.heap.size+1=w5.heap.size:=Option.some.inj e;have:=M5.out;have:=MG.out;omega) (qQM _ _ _ (qQe Z5.out) Z5.out))
 have B6:=Lh (show Below w.heap.size w w6 from(B5.out.alloc B5.out.size _).trans (qQi hg6 (kQk B5.out.size (by simp)) (fun g e=>by have e:w5.heap.size=g:=Option.some.inj e;have:=B5.out.size;omega)))
 have S56:=Lh (show w5.heap.size≤w6.heap.size from kQk (by simp) hg6.size)
 clear ho6 hg6
 refine hK.out _ _ ?_
 clear hK K
 simp only [Act.put,pq1,pq2,pq3]
 refine qQa (by rfl) (by go_simp;rfl) ?_
 simp only [Act.put,pq1,pq2,pq3]
 refine qQa (by rfl) (by go_simp;rfl) ?_
 simp only [Act.put,pq1,pq2,pq3]
 refine qQs (by rfl) (fun K hK=>?_)
 go_simp
 generalize hw7:World.alloc w6 _=w7
 have R7:=Lh (show w7.heap[M]?=some (.cells ds 32 (0,0)) by rw [←hw7];exact qQM _ _ _ (qQe R6.out) R6.out)
 have Z7:=Lh (show w7.heap[w.heap.size+1]?=some (.cells RBZ 32 (0,0)) by rw [←hw7];exact qQM _ _ _ (qQe Z6.out) Z6.out)
 have B7:=Lh (show Below w.heap.size w w7 by rw [←hw7];exact B6.out.alloc B6.out.size _)
 have O7:=Lh (show OwnK w7 w5.heap.size 124 4 v6 n (EC L) by rw [←hw7];exact O6.out.below (qQh _ _))
 have E7:=Lh (show RdV w7 (some ⟨w6.heap.size,0,none⟩) (EC [⟨X,[],[],[]⟩]) by rw [←hw7];exact RdV.row (qQk _ _ _ rfl))
 have S57:=Lh (show w5.heap.size≤w7.heap.size by rw [←hw7];exact kQk S56.out (qQh _ _).size)
 clear hw7
 refine hK.out _ _ ?_
 clear hK K
 refine qQs (by rfl) (fun K hK=>?_)
 refine qJl EntK (.tmp 44) (.tmp 47) rfl w5.heap.size v6 n (EC L) (EC [⟨X,[],[],[]⟩]) (some ⟨w6.heap.size,0,none⟩) 1 1 rfl rfl rfl O7.out E7.out (EC_one _) S57.out (by have:=HL.out;omega) (by have:=HL.out;omega) ?_
 intro v8 w8 ho8 hg8 _
 have OL:=Lh (fun g (e:v6.ownBlock=some g)=>O7.out.lt g e)
 obtain⟨_,A8,c8,rfl,hr8,hc8,_,_⟩:=ho8.read
 have RE:=Lh (show RdV w8 A8 (EC (L++[⟨X,[],[],[]⟩])) by rw [EC_append];exact hr8)
 have C8:=Lh hc8
 have R8:=Lh (show w8.heap[M]?=some (.cells ds 32 (0,0))from qQd hg8 (fun e=>by have:=OL.out M e.symm;have:=M5.out;omega) R7.out)
 have Z8:=Lh (show w8.heap[w.heap.size+1]?=some (.cells RBZ 32 (0,0))from qQd hg8 (fun e=>by have:=OL.out _ e.symm;have:=M5.out;have:=MG.out;omega) Z7.out)
 have B8:=Lh (B7.out.trans (qQi hg8 B7.out.size (fun g e=>by have:=OL.out g e;have:=B5.out.size;omega)))
 have AB:=Lh (show ∀a,A8=some a→w5.heap.size≤a.block∧a.block<w8.heap.size from fun a ea=>by have:=ho8.lt a.block (by rw [ea];rfl);omega)
 clear ho8 hg8 hr8 hc8
 refine hK.out _ _ ?_
 clear hK K
 simp only [Act.put,pq1,pq2,pq3]
 have c3:=qQg R8.out 3 (show ds[3]?=some (.slice A n c) by rw [DE.out];rfl)
 have f3:=qQz R8.out 3
 refine qQa (by rfl) (by go_simp;rfl) ?_
 simp only [Act.put,pq1,pq2,pq3]
 refine qQs (by rfl) (fun K hK=>?_)
 go_simp
 generalize hw9:World.setCell w8 _ _=w9
 have G9:=Lh (show w8.grownBy w9 (some M) by rw [←hw9];exact qQF (World.grownBy.refl _ _) _ _)
 obtain⟨es,hes⟩:∃es,es=RBC 0 F (u+12) A8 (n+1) c8:=⟨_,rfl⟩
 have EE:=Lh hes
 have EZ:=Lh (show(Tryz.prog.info? 32).map (·.size)=some es.size by rw [hes];exact qQK)
 have EO:=Lh (show es.all (·.oneCell')=true by rw [hes];exact qQ3 _ _ _ _ _ _)
 have ES:=Lh (show es.size=4 by rw [hes];rfl)
 have R9:=Lh (show w9.heap[M]?=some (.cells es 32 (0,0)) by rw [←hw9,heap_setCell_same _ _ _ _ _ _ R8.out,DE.out,hes];rfl)
 have Z9:=Lh (qQd G9.out (fun e=>by have e:w.heap.size+1=M:=Option.some.inj e;have:=MG.out;omega) Z8.out)
 have B9:=Lh (B8.out.trans (qQi G9.out B8.out.size (fun g e=>by have e:M=g:=Option.some.inj e;have:=MG.out;omega)))
 have RE:=Lh (show RdV w9 A8 (EC (L++[⟨X,[],[],[]⟩]))from RE.out.grown G9.out (fun g e a ea=>by have e:M=g:=Option.some.inj e;have:=AB.out a ea;have:=M5.out;omega))
 clear hw9 hes c3 f3
 refine hK.out _ _ ?_
 clear hK K
 go_wp2_with (first
  | (refine qQa rfl (qQj 32 (.tmp 11) rfl M rfl 32 es (0,0) _ R9.out Tryz.underlying32 rfl EZ.out) ?_)
  | (refine qQf rfl rfl 32 (.tmp 8) (.tmp 50) rfl (w.heap.size+1) es rfl rfl 32 RBZ Z9.out EZ.out (by rw [ES.out];rfl) EO.out ?_;intro w10 hz10 hg10 _))
 refine ret_rbx2 (w.heap.size+1) es _ _ rfl rfl rfl rfl rfl hz10 ES.out ?_
 rw[SE.out]
 refine⟨A8,n+1,c8,by rw [EE.out];rfl,RE.out.grown hg10 (fun g e a ea=>by have e:w.heap.size+1=g:=Option.some.inj e;have:=AB.out a ea;have:=M5.out;have:=MG.out;omega),by simp [HN.out],C8.out,fun a ea=>.inl ⟨kQk B5.out.size (AB.out a ea).1,kQb (AB.out a ea).2 (kQk G9.out.size hg10.size)⟩,B9.out.trans (qQi hg10 B9.out.size (fun g e=>by have e:w.heap.size+1=g:=Option.some.inj e;omega))⟩
theorem rbseal_ideal (F:List UInt8) (u:Nat) (A:Option Addr) (n c:Nat) (L:List REnt) (hn:L.length=n) (hc:n≤c) (w:World) (hR:RdV w A (EC L)) (k bs t:List UInt8) (hbs:bs.length≤1000) (ht:t.length≤1000)
  (hF:F.length≤2900) (hu:u≤800000) (hL:n≤10000) :
  Calls Tryz.prog 34 #[.agg (RBC 1 F u A n c),.string (strB k),.string (strB bs),.string (strB t)] w (RSealP w A (qX9 ⟨1,F,u,L⟩ k bs t)):=by
 have HN:=Lh hn
 have HC:=Lh hc
 have RL:=Lh hR
 have HB:=Lh hbs
 have HT:=Lh ht
 have HF:=Lh hF
 have HU:=Lh hu
 have HL:=Lh hL
 obtain⟨q,hq⟩:∃q,q=t.length:=⟨_,rfl⟩
 have QE:=Lh hq.symm
 have s1:(strB t).size=q:=by rw [qQH,hq]
 have s2:=qQH bs
 have qb:(q:Int)≤1000:=by omega
 have d1:decide ((65536:Int)<(q:Int))=false:=by simp;omega
 have d2:decide ((65536:Int)<(bs.length:Int))=false:=by simp;omega
 have d3:decide (65536<q)=false:=by simp;omega
 have d4:decide (65536<bs.length)=false:=by simp;omega
 obtain⟨r,hr⟩:∃r,r=qX9 ⟨1,F,u,L⟩ k bs t:=⟨_,rfl⟩
 have RH:=Lh (show qXX k bs t 8 ⟨1,F,u,L⟩=r by rw [hr,qX9,if_neg (by simp)])
 rw[←hr]
 obtain⟨cs,hcs⟩:∃cs,cs=RBC 1 F u A n c:=⟨_,rfl⟩
 have CE:=Lh hcs
 rw[←hcs]
 clear hn hc hR hbs ht hF hu hL hcs hr hq
 go_enter Tryz.func34,Tryz.ntmps34
 go_upto_region 1 with fail
 generalize hw1:World.alloc w _=w1
 generalize hw2:World.alloc w1 _=w2
 have R2:=Lh (show w2.heap[w.heap.size]?=some (.cells cs 32 (0,0)) by rw [←hw2,←hw1];exact qQM _ _ _ (by simp) (qQk _ _ _ rfl))
 have Z2:=Lh (show w2.heap[w.heap.size+1]?=some (.cells RBZ 32 (0,0)) by rw [←hw2,←hw1];exact qQk _ _ _ (by simp))
 have B2:=Lh (show Below w.heap.size w w2 by rw [←hw2,←hw1];exact(qQh _ _).trans ((qQh _ _).mono (by simp)))
 clear hw1 hw2
 have c0:=qQg R2.out 0 (show cs[0]?=some (.int .i64 1) by rw [CE.out];rfl)
 go_upto_region 8 with fail
 clear c0 d1 d2 d3 d4 s2
 go_wp2_with fail
 go_loopw [14] (fun i wr=>∃(j u':Nat),j≤8∧i=.int .i64 (j:Int)∧qXX k bs t (8-j) ⟨1,F,u',L⟩=r∧u'=u+j*(q+28)∧wr.heap[w.heap.size]?=some (.cells (RBC 1 F u' A n c) 32 (0,0))∧wr.heap[w.heap.size+1]?=some (.cells RBZ 32 (0,0))∧Below w.heap.size w wr) (fun i _=>8-(intOf i).toNat)
 case atStart=>exact⟨0,u,by omega,rfl,RH.out,by omega,by rw [←CE.out];exact R2.out,Z2.out,B2.out⟩
 case round=>
  obtain⟨j,v,hj,rfl,hr,hv,h1,h2,h3⟩:=hrel
  obtain⟨cs,hcs⟩:∃cs,cs=RBC 1 F v A n c:=⟨_,rfl⟩
  have CE:=Lh hcs
  have CZ:=Lh (show(Tryz.prog.info? 32).map (·.size)=some cs.size by rw [hcs];exact qQK)
  have CS:=Lh (show cs.size=4 by rw [hcs];rfl)
  rw[←hcs]at h1
  have J:=Lh hj
  have RJ:=Lh hr
  have VE:=Lh hv
  have R2:=Lh h1
  have Z2:=Lh h2
  have B2:=Lh h3
  clear hj hr hv h1 h2 h3 hcs
  by_cases h8:j<8
  ·have hD:decide ((j:Int)<8)=true:=by simp;omega
   have J8:=Lh h8
   have jb:(j:Int)≤7:=by omega
   have VB:=Lh (show v≤900000∧v+(q+28)=u+(j+1)*(q+28) by
    have h1:j*(q+28)≤8*(q+28):=Nat.mul_le_mul_right _ (by omega)
    have h2:=Nat.succ_mul j (q+28)
    rw[Nat.succ_eq_add_one]at h2
    have:=VE.out
    have:=HU.out
    omega)
   clear h8
   obtain⟨X,hX⟩:∃X,X=qQR F v (q+28):=⟨_,rfl⟩
   have XE:=Lh hX
   have XS:=Lh (show r=if qWu L X then qXX k bs t (8-(j+1)) ⟨1,F,v+(q+28),L⟩else(⟨1,F,v+(q+28),L++[⟨X,k,bs,t⟩]⟩,some X) by
    rw[←RJ.out,show 8-j=(8-(j+1))+1 by have:=J8.out;omega,qXX,QE.out,hX])
   clear hX
   go_wp2_with (refine qQa rfl (qQj 32 (.tmp 4) rfl w.heap.size rfl 32 cs (0,0) _ R2.out Tryz.underlying32 rfl CZ.out) ?_)
   rw[CE.out,show((q:Int)+28)=((q+28:Nat):Int) by omega]
   refine(qVq 1 F v A n c HF.out (by have:=VB.out;omega) (q+28) (by omega) wr).mono ?_
   rw[←CE.out,←XE.out]
   rintro e w3 ⟨rfl,hb3⟩
   obtain⟨ds,hds⟩:∃ds,ds=RBC 1 F (v+(q+28)) A n c:=⟨_,rfl⟩
   have DE:=Lh hds
   have DZ:=Lh (show(Tryz.prog.info? 32).map (·.size)=some ds.size by rw [hds];exact qQK)
   have DO:=Lh (show ds.all (·.oneCell')=true by rw [hds];exact qQ3 _ _ _ _ _ _)
   have DS:=Lh (show ds.size=4 by rw [hds];rfl)
   rw[←hds]
   have R3:=Lh (qQb hb3 (qQe R2.out) R2.out)
   have Z3:=Lh (qQb hb3 (qQe Z2.out) Z2.out)
   have B3:=Lh (B2.out.trans (hb3.mono B2.out.size))
   clear hb3 hds
   go_upto_region 12 with (refine qQp rfl rfl 32 (.tmp 15) (.tmp 62) rfl ds rfl rfl DZ.out ?c1 DO.out ?_)
   case c1=>rw [DS.out];rfl
   generalize hM:Array.size (World.heap w3)=M
   generalize hw4:World.alloc w3 _=w4
   have R4:=Lh (show w4.heap[M]?=some (.cells ds 32 (0,0)) by rw [←hw4];exact qQk _ _ _ hM.symm)
   have C4:=Lh (show w4.heap[w.heap.size]?=some (.cells cs 32 (0,0)) by rw [←hw4];exact qQM _ _ _ (qQe R3.out) R3.out)
   have Z4:=Lh (show w4.heap[w.heap.size+1]?=some (.cells RBZ 32 (0,0)) by rw [←hw4];exact qQM _ _ _ (qQe Z3.out) Z3.out)
   have B4:=Lh (show Below w.heap.size w w4 by rw [←hw4];exact B3.out.alloc B3.out.size _)
   have MG:=Lh (show w.heap.size+1<M by rw [←hM];exact qQe Z3.out)
   clear hM hw4
   go_wp2_with (refine qQa rfl (qQj 32 (.tmp 15) rfl M rfl 32 ds (0,0) _ R4.out Tryz.underlying32 rfl DZ.out) ?_)
   rw[DE.out]
   refine(rknown_any 1 F (v+(q+28)) A n c L HN.out w4 (RL.out.keep B4.out) X (by have:=HL.out;omega)).mono ?_
   rw[←DE.out]
   rintro e w5 ⟨rfl,hb5⟩
   have R5:=Lh (qQb hb5 (qQe R4.out) R4.out)
   have C5:=Lh (qQb hb5 (qQe C4.out) C4.out)
   have Z5:=Lh (qQb hb5 (qQe Z4.out) Z4.out)
   have B5:=Lh (B4.out.trans (hb5.mono B4.out.size))
   clear hb5
   obtain⟨β,hβ⟩:∃β,β=qWu L X:=⟨_,rfl⟩
   rw[←hβ]at XS ⊢
   clear hβ
   cases β with
   | true=>
    have XN:=Lh (show qXX k bs t (8-(j+1)) ⟨1,F,v+(q+28),L⟩=r by rw [XS.out];rfl)
    go_wp2_with (first
     | (refine qQa rfl (qQj 32 (.tmp 15) rfl M rfl 32 ds (0,0) _ R5.out Tryz.underlying32 rfl DZ.out) ?_)
     | (refine qQf rfl rfl 32 (.tmp 4) (.tmp 82) rfl w.heap.size ds rfl rfl 32 cs C5.out DZ.out (by rw [DS.out,CS.out]) DO.out ?_;intro w6 hz6 hg6 _))
    go_roundw
    case rel=>exact⟨j+1,v+(q+28),by have:=J8.out;omega,by go_num,XN.out,VB.out.2,by rw [←DE.out];exact hz6,qQd hg6 (fun e=>by have e:w.heap.size+1=w.heap.size:=Option.some.inj e;omega) Z5.out,B5.out.trans (qQi hg6 B5.out.size (fun g e=>by have e:w.heap.size=g:=Option.some.inj e;omega))⟩
    case measure=>have:=J8.out;simp [intOf];omega
   | false=>
    have SE:=Lh (show r=(⟨1,F,v+(q+28),L++[⟨X,k,bs,t⟩]⟩,some X) by rw [XS.out];rfl)
    go_upto_region 13 with fail
    have c3:=qQg R5.out 3 (show ds[3]?=some (.slice A n c) by rw [DE.out];rfl)
    have C3:=Lh c3
    have M5:=Lh (qQe R5.out)
    clear c3
    refine wp_region_list ?_
    simp only [kQf]
    refine qQs (by rfl) (fun K hK=>?_)
    go_simp
    refine hK.out _ _ ?_
    clear hK K
    refine qQa (by rfl) (by go_simp;rfl) ?_
    simp only [Act.put,pq1,pq2,pq3]
    refine qQa (by rfl) (qQq 30 (.tmp 69) rfl _ Tryz.underlying30 rfl rfl (qVT C3.out _)) ?_
    simp only [Act.put,pq1,pq2,pq3]
    refine qQs (by rfl) (fun K hK=>?_)
    refine qJl EntK (.tmp 68) (.tmp 70) rfl w5.heap.size _ 0 [] (EC L) A n c rfl rfl (by rw [EC_length,HN.out]) (OwnK.made w5 w5.heap.size _ 4 (kQh _)) ((RL.out.keep B5.out).keep (qQh _ _)) (EC_one L) (by simp) (by have:=HL.out;omega) (by have:=HL.out;omega) ?_
    intro v6 w6 ho6 hg6 _
    have O6:=Lh (show OwnK w6 w5.heap.size 124 4 v6 n (EC L) by simpa using ho6)
    have R6:=Lh (show w6.heap[M]?=some (.cells ds 32 (0,0))from qQd hg6 (fun e=>by have e:M=w5.heap.size:=Option.some.inj e;have:=M5.out;omega) (qQM _ _ _ M5.out R5.out))
    have Z6:=Lh (show w6.heap[w.heap.size+1]?=some (.cells RBZ 32 (0,0))from qQd hg6 (fun e=>by have e:w.heap.size+1=w5.heap.size:=Option.some.inj e;have:=M5.out;have:=MG.out;omega) (qQM _ _ _ (qQe Z5.out) Z5.out))
    have B6:=Lh (show Below w.heap.size w w6 from(B5.out.alloc B5.out.size _).trans (qQi hg6 (kQk B5.out.size (by simp)) (fun g e=>by have e:w5.heap.size=g:=Option.some.inj e;have:=B5.out.size;omega)))
    have S56:=Lh (show w5.heap.size≤w6.heap.size from kQk (by simp) hg6.size)
    clear ho6 hg6
    refine hK.out _ _ ?_
    clear hK K
    simp only [Act.put,pq1,pq2,pq3]
    refine qQa (by rfl) (by go_simp;rfl) ?_
    simp only [Act.put,pq1,pq2,pq3]
    refine qQa (by rfl) (by go_simp;rfl) ?_
    simp only [Act.put,pq1,pq2,pq3]
    refine qQa (by rfl) (by go_simp;rfl) ?_
    simp only [Act.put,pq1,pq2,pq3]
    refine qQa (by rfl) (by go_simp;rfl) ?_
    simp only [Act.put,pq1,pq2,pq3]
    refine qQa (by rfl) (by go_simp;rfl) ?_
    simp only [Act.put,pq1,pq2,pq3]
    refine qQs (by rfl) (fun K hK=>?_)
    go_simp
    generalize hw7:World.alloc w6 _=w7
    have R7:=Lh (show w7.heap[M]?=some (.cells ds 32 (0,0)) by rw [←hw7];exact qQM _ _ _ (qQe R6.out) R6.out)
    have Z7:=Lh (show w7.heap[w.heap.size+1]?=some (.cells RBZ 32 (0,0)) by rw [←hw7];exact qQM _ _ _ (qQe Z6.out) Z6.out)
    have B7:=Lh (show Below w.heap.size w w7 by rw [←hw7];exact B6.out.alloc B6.out.size _)
    have O7:=Lh (show OwnK w7 w5.heap.size 124 4 v6 n (EC L) by rw [←hw7];exact O6.out.below (qQh _ _))
    have E7:=Lh (show RdV w7 (some ⟨w6.heap.size,0,none⟩) (EC [⟨X,k,bs,t⟩]) by rw [←hw7];exact RdV.row (qQk _ _ _ rfl))
    have S57:=Lh (show w5.heap.size≤w7.heap.size by rw [←hw7];exact kQk S56.out (qQh _ _).size)
    clear hw7
    refine hK.out _ _ ?_
    clear hK K
    refine qQs (by rfl) (fun K hK=>?_)
    refine qJl EntK (.tmp 71) (.tmp 77) rfl w5.heap.size v6 n (EC L) (EC [⟨X,k,bs,t⟩]) (some ⟨w6.heap.size,0,none⟩) 1 1 rfl rfl rfl O7.out E7.out (EC_one _) S57.out (by have:=HL.out;omega) (by have:=HL.out;omega) ?_
    intro v8 w8 ho8 hg8 _
    have OL:=Lh (fun g (e:v6.ownBlock=some g)=>O7.out.lt g e)
    obtain⟨_,A8,c8,rfl,hr8,hc8,_,_⟩:=ho8.read
    have RE:=Lh (show RdV w8 A8 (EC (L++[⟨X,k,bs,t⟩])) by rw [EC_append];exact hr8)
    have C8:=Lh hc8
    have R8:=Lh (show w8.heap[M]?=some (.cells ds 32 (0,0))from qQd hg8 (fun e=>by have:=OL.out M e.symm;have:=M5.out;omega) R7.out)
    have Z8:=Lh (show w8.heap[w.heap.size+1]?=some (.cells RBZ 32 (0,0))from qQd hg8 (fun e=>by have:=OL.out _ e.symm;have:=M5.out;have:=MG.out;omega) Z7.out)
    have B8:=Lh (B7.out.trans (qQi hg8 B7.out.size (fun g e=>by have:=OL.out g e;have:=B5.out.size;omega)))
    have AB:=Lh (show ∀a,A8=some a→w5.heap.size≤a.block∧a.block<w8.heap.size from fun a ea=>by have:=ho8.lt a.block (by rw [ea];rfl);omega)
    clear ho8 hg8 hr8 hc8
    refine hK.out _ _ ?_
    clear hK K
    simp only [Act.put,pq1,pq2,pq3]
    have c3:=qQg R8.out 3 (show ds[3]?=some (.slice A n c) by rw [DE.out];rfl)
    have f3:=qQz R8.out 3
    refine qQa (by rfl) (by go_simp;rfl) ?_
    simp only [Act.put,pq1,pq2,pq3]
    refine qQs (by rfl) (fun K hK=>?_)
    go_simp
    generalize hw9:World.setCell w8 _ _=w9
    have G9:=Lh (show w8.grownBy w9 (some M) by rw [←hw9];exact qQF (World.grownBy.refl _ _) _ _)
    obtain⟨es,hes⟩:∃es,es=RBC 1 F (v+(q+28)) A8 (n+1) c8:=⟨_,rfl⟩
    have EE:=Lh hes
    have EZ:=Lh (show(Tryz.prog.info? 32).map (·.size)=some es.size by rw [hes];exact qQK)
    have EO:=Lh (show es.all (·.oneCell')=true by rw [hes];exact qQ3 _ _ _ _ _ _)
    have ES:=Lh (show es.size=4 by rw [hes];rfl)
    have R9:=Lh (show w9.heap[M]?=some (.cells es 32 (0,0)) by rw [←hw9,heap_setCell_same _ _ _ _ _ _ R8.out,DE.out,hes];rfl)
    have Z9:=Lh (qQd G9.out (fun e=>by have e:w.heap.size+1=M:=Option.some.inj e;have:=MG.out;omega) Z8.out)
    have B9:=Lh (B8.out.trans (qQi G9.out B8.out.size (fun g e=>by have e:M=g:=Option.some.inj e;have:=MG.out;omega)))
    have RE:=Lh (show RdV w9 A8 (EC (L++[⟨X,k,bs,t⟩]))from RE.out.grown G9.out (fun g e a ea=>by have e:M=g:=Option.some.inj e;have:=AB.out a ea;have:=M5.out;omega))
    clear hw9 hes c3 f3
    refine hK.out _ _ ?_
    clear hK K
    go_wp2_with (first
     | (refine qQa rfl (qQj 32 (.tmp 15) rfl M rfl 32 es (0,0) _ R9.out Tryz.underlying32 rfl EZ.out) ?_)
     | (refine qQf rfl rfl 32 (.tmp 8) (.tmp 80) rfl (w.heap.size+1) es rfl rfl 32 RBZ Z9.out EZ.out (by rw [ES.out];rfl) EO.out ?_;intro w10 hz10 hg10 _))
    refine ret_rbx2 (w.heap.size+1) es _ _ rfl rfl rfl rfl rfl hz10 ES.out ?_
    rw[SE.out]
    refine⟨A8,n+1,c8,by rw [EE.out];rfl,RE.out.grown hg10 (fun g e a ea=>by have e:w.heap.size+1=g:=Option.some.inj e;have:=AB.out a ea;have:=M5.out;have:=MG.out;omega),by simp [HN.out],C8.out,fun a ea=>.inl ⟨kQk B5.out.size (AB.out a ea).1,kQb (AB.out a ea).2 (kQk G9.out.size hg10.size)⟩,B9.out.trans (qQi hg10 B9.out.size (fun g e=>by have e:w.heap.size+1=g:=Option.some.inj e;omega))⟩
  ·have hD:decide ((j:Int)<8)=false:=by simp;omega
   have SE:=Lh (show r=(⟨1,F,v,L⟩,none) by rw [←RJ.out,show 8-j=0 by omega];rfl)
   have CO:=Lh (show cs.all (·.oneCell')=true by rw [CE.out];exact qQ3 _ _ _ _ _ _)
   go_wp2_with (first
    | (refine qQa rfl (qQj 32 (.tmp 4) rfl w.heap.size rfl 32 cs (0,0) _ R2.out Tryz.underlying32 rfl CZ.out) ?_)
    | (refine qQf rfl rfl 32 (.tmp 8) (.tmp 83) rfl (w.heap.size+1) cs rfl rfl 32 RBZ Z2.out CZ.out (by rw [CS.out];rfl) CO.out ?_;intro w10 hz10 hg10 _))
   refine ret_rbx2 (w.heap.size+1) cs _ _ rfl rfl rfl rfl rfl hz10 CS.out ?_
   rw[SE.out]
   have BF:=B2.out.trans (qQi hg10 B2.out.size (fun g e=>by have e:w.heap.size+1=g:=Option.some.inj e;omega))
   exact⟨A,n,c,by rw [CE.out];rfl,RL.out.keep BF,HN.out,HC.out,fun a ea=>.inr ea,BF⟩
def qXU (s:RBx) (k bs x:List UInt8):Option (List UInt8):=
 if s.mode=0 then(if x.length<28 then none else qWO k (x.take 12) bs (x.drop 12))
 else(s.L.find? fun p=>decide (p.x=x∧p.key=k∧p.beside=bs)).map (·.text)
theorem rbopen_real (F:List UInt8) (u:Nat) (A:Option Addr) (n c:Nat) (L:List REnt) (w:World) (k bs x:List UInt8) (hk:k.length=32) (hbs:bs.length≤1000) (hx:x.length≤1000) :
  Calls Tryz.prog 38 #[.agg (RBC 0 F u A n c),.string (strB k),.string (strB bs),.string (strB x)] w (ROpenP w (qXU ⟨0,F,u,L⟩ k bs x)):=by
 have HK:=Lh hk
 have HB:=Lh hbs
 obtain⟨q,hq⟩:∃q,q=x.length:=⟨_,rfl⟩
 have QE:=Lh hq.symm
 have s1:(strB x).size=q:=by rw [qQH,hq]
 have QB:=Lh (show q≤1000 by omega)
 have qb:(q:Int)≤1000:=by have:=QB.out;omega
 obtain⟨r,hr⟩:∃r,r=qXU ⟨0,F,u,L⟩ k bs x:=⟨_,rfl⟩
 have RH:=Lh (show r=if x.length<28 then none else qWO k (x.take 12) bs (x.drop 12) by rw [hr,qXU,if_pos rfl])
 rw[←hr]
 obtain⟨cs,hcs⟩:∃cs,cs=RBC 0 F u A n c:=⟨_,rfl⟩
 have CE:=Lh hcs
 rw[←hcs]
 clear hk hbs hx hcs hr hq
 go_enter Tryz.func38,Tryz.ntmps38
 go_upto_region 1 with fail
 generalize hw1:World.alloc w _=w1
 have R1:=Lh (show w1.heap[w.heap.size]?=some (.cells cs 32 (0,0)) by rw [←hw1];exact qQk _ _ _ rfl)
 have B1:=Lh (show Below w.heap.size w w1 by rw [←hw1];exact qQh _ _)
 clear hw1
 have c0:=qQg R1.out 0 (show cs[0]?=some (.int .i64 0) by rw [CE.out];rfl)
 by_cases h28:q<28
 ·have d1:decide ((q:Int)<28)=true:=by simp;omega
  have d2:decide (q<28)=true:=by simp;omega
  have RN:=Lh (show r=none by rw [RH.out,if_pos (by rw [QE.out];exact h28)])
  go_wp2_with fail
  go_ret2
  rw[RN.out]
  exact⟨rfl,B1.out⟩
 ·have d1:decide ((q:Int)<28)=false:=by simp;omega
  have d2:decide (q<28)=false:=by simp;omega
  have RN:=Lh (show r=qWO k (x.take 12) bs (x.drop 12) by rw [RH.out,if_neg (by rw [QE.out];exact h28)])
  have Q28:=Lh (show 28≤q by omega)
  clear h28
  go_upto_region 4 with fail
  clear c0 d1 d2 s1
  have B:=Lh (show Below w1.heap.size w1 w1.drew from(Below.refl _ _).drew)
  refine qQu (fun W=>Below w1.heap.size w1 W) [(true,0),(true,1),(true,2),(true,3),(true,4),(true,5),(false,6),(true,7),(true,8),(true,9),(true,10)] (by kernel_rfl) (by kernel_rfl) (fun _ _ d _ _ h=>by cases d<;>exact h) ?_
  simp only [kQl,kQm,kQd,kQg,kQe,kQo]
  refine qQc (by rfl) B.out (fun W hW=>by go_simp;rfl) ?_
  simp only [Act.put,pq1,pq2,pq3]
  refine qQc (by rfl) B.out (fun W hW=>by go_simp;rfl) ?_
  simp only [Act.put,pq1,pq2,pq3]
  refine qQc (by rfl) B.out (fun W hW=>qWJ 9 (.tmp 18) (.const (.int .i64 12)) rfl Tryz.underlying9 x 12 (by have:=Q28.out;have:=QE.out;omega) rfl rfl W) ?_
  simp only [Act.put,pq1,pq2,pq3]
  refine qQc (by rfl) B.out (fun W hW=>by go_simp;rfl) ?_
  simp only [Act.put,pq1,pq2,pq3]
  refine qQc (by rfl) B.out (fun W hW=>by go_simp;rfl) ?_
  simp only [Act.put,pq1,pq2,pq3]
  refine qQc (by rfl) B.out (fun W hW=>qXw 9 (.tmp 21) (.const (.int .i64 12)) rfl Tryz.underlying9 x 12 (by have:=Q28.out;have:=QE.out;omega) rfl rfl W) ?_
  simp only [Act.put,pq1,pq2,pq3]
  refine qQE (by rfl) (fun K hK=>?_)
  go_simp
  refine(ropen_any k (x.take 12) HK.out (by rw [kQp];have:=Q28.out;have:=QE.out;omega) bs (x.drop 12) (q-12) (by rw [kQv,QE.out]) HB.out (by have:=QB.out;omega) w1.drew).mono ?_
  rw[←RN.out]
  rintro e w2 ⟨rfl,hb2⟩
  have B2:=Lh (B.out.trans (hb2.mono B.out.size))
  have BW:=Lh (show Below w.heap.size w w2 from B1.out.trans (B2.out.mono B1.out.size))
  clear hb2
  refine hK.out _ _ B2.out ?_
  clear hK K
  refine qQc (by rfl) B2.out (fun W hW=>by go_simp;rfl) ?_
  simp only [Act.put,pq1,pq2,pq3]
  refine qQc (by rfl) B2.out (fun W hW=>by go_simp;rfl) ?_
  simp only [Act.put,pq1,pq2,pq3]
  refine qQc (by rfl) B2.out (fun W hW=>by go_simp;rfl) ?_
  simp only [Act.put,pq1,pq2,pq3]
  refine qQc (by rfl) B2.out (fun W hW=>by go_simp;rfl) ?_
  simp only [Act.put,pq1,pq2,pq3]
  refine qQG ?_
  go_wp2_with fail
  go_ret2
  exact⟨rfl,BW.out⟩
theorem rbopen_ideal (F:List UInt8) (u:Nat) (A:Option Addr) (n c:Nat) (L:List REnt) (hn:L.length=n) (w:World) (hR:RdV w A (EC L)) (k bs x:List UInt8) (hL:n≤1000000) :
  Calls Tryz.prog 38 #[.agg (RBC 1 F u A n c),.string (strB k),.string (strB bs),.string (strB x)] w (ROpenP w (qXU ⟨1,F,u,L⟩ k bs x)):=by
 have IE:=Lh (show(Tryz.prog.info? 124).map (·.size)=some 4 by kernel_rfl)
 have HN:=Lh hn
 have nb:(n:Int)≤1000000:=by omega
 obtain⟨r,hr⟩:∃r,r=qXU ⟨1,F,u,L⟩ k bs x:=⟨_,rfl⟩
 have RH:=Lh (show r=(L.find? fun p=>decide (p.x=x∧p.key=k∧p.beside=bs)).map (·.text) by rw [hr,qXU,if_neg (by simp)])
 rw[←hr]
 obtain⟨cs,hcs⟩:∃cs,cs=RBC 1 F u A n c:=⟨_,rfl⟩
 have CE:=Lh hcs
 have RL:=Lh hR
 rw[←hcs]
 clear hn hR hL hcs hr
 go_enter Tryz.func38,Tryz.ntmps38
 go_upto_region 1 with fail
 generalize hw1:World.alloc w _=w1
 have R1:=Lh (show w1.heap[w.heap.size]?=some (.cells cs 32 (0,0)) by rw [←hw1];exact qQk _ _ _ rfl)
 have B1:=Lh (show Below w.heap.size w w1 by rw [←hw1];exact qQh _ _)
 have RL:=Lh (RL.out.keep B1.out)
 clear hw1
 have c0:=qQg R1.out 0 (show cs[0]?=some (.int .i64 1) by rw [CE.out];rfl)
 have c3:=qQg R1.out 3 (show cs[3]?=some (.slice A n c) by rw [CE.out];rfl)
 go_wp2_with fail
 go_loopw [10] (fun i wr=>∃j:Nat,j≤n∧i=.int .i64 (j:Int)∧(∀p∈L.take j,¬(p.x=x∧p.key=k∧p.beside=bs))∧wr=w1) (fun i _=>n-(intOf i).toNat)
 case atStart=>exact⟨0,by omega,rfl,by simp,rfl⟩
 case round=>
  obtain⟨j,hj,rfl,hk,hwr⟩:=hrel
  rw[hwr]
  clear hwr wr c0
  have J:=Lh hj
  have K:=Lh hk
  clear hj hk
  by_cases hlt:j<n
  ·have hD:decide ((j:Int)<(n:Int))=true:=by simp;omega
   obtain⟨p,hp⟩:∃p,L[j]?=some p:=⟨_,kQi (by rw [HN.out];exact hlt)⟩
   obtain⟨b,o,hA,hc⟩:=rng_cell RL.out hp
   have AE:=Lh hA
   have LT:=Lh hlt
   have KN:=Lh (show ¬(p.x=x∧p.key=k∧p.beside=bs)→∀p∈L.take (j+1),¬(p.x=x∧p.key=k∧p.beside=bs)from fun hne p' hp'=>by
    rw[List.take_succ_eq_append_getElem (by rw [HN.out];exact hlt)]at hp'
    rcases List.mem_append.mp hp' with h|h
    ·exact K.out p' h
    ·have h2:L[j]'(by rw [HN.out];exact hlt)=p:=by
      rw[kQi (by rw [HN.out];exact hlt)]at hp
      exact Option.some.inj hp
     simp only [List.mem_cons,List.mem_nil_iff,or_false]at h
     rw[h,h2]
     exact hne)
   have KT:=Lh (show p.x=x∧p.key=k∧p.beside=bs→r=some p.text from fun hyes=>by
    have hsplit:L=L.take j++p::L.drop (j+1):=by
     have h2:L[j]'(by rw [HN.out];exact hlt)=p:=by
      rw[kQi (by rw [HN.out];exact hlt)]at hp
      exact Option.some.inj hp
     rw[←h2,←List.drop_eq_getElem_cons,List.take_append_drop]
    have hn1:(L.take j).find? (fun p=>decide (p.x=x∧p.key=k∧p.beside=bs))=none:=by
     rw[List.find?_eq_none]
     intro q hq
     simpa using K.out q hq
    rw[RH.out,hsplit,List.find?_append,hn1]
    simp [hyes])
   obtain⟨x',key',bs',t'⟩:=p
   have C0:=Lh (show w1.cell? ⟨b,o+j*4+0,none⟩=some (.string (strB x'))from hc 0 _ rfl)
   have C1:=Lh (show w1.cell? ⟨b,o+j*4+1,none⟩=some (.string (strB key'))from hc 1 _ rfl)
   have C2:=Lh (show w1.cell? ⟨b,o+j*4+2,none⟩=some (.string (strB bs'))from hc 2 _ rfl)
   have C3:=Lh (show w1.cell? ⟨b,o+j*4+3,none⟩=some (.string (strB t'))from hc 3 _ rfl)
   have KN:=Lh (show ¬(x'=x∧key'=k∧bs'=bs)→_ from KN.out)
   have KT:=Lh (show x'=x∧key'=k∧bs'=bs→r=some t' from KT.out)
   clear hp hA hc hlt
   have nx:=fun(h:¬(x'=x∧key'=k∧bs'=bs))=>KN.out h
   have NX:=Lh nx
   clear nx
   have jb:(j:Int)≤1000000:=by have:=LT.out;omega
   by_cases h1:x'=x
   ·have H1:=Lh h1
    by_cases h2:key'=k
    ·have H2:=Lh h2
     by_cases h3:bs'=bs
     ·have H3:=Lh h3
      have RS:=Lh (KT.out ⟨h1,h2,h3⟩)
      clear h1 h2 h3
      go_upto_region 8 with fail
      refine wp_region_list ?_
      simp only [kQf]
      refine qQa (by rfl) (by go_simp;rfl) ?_
      simp only [Act.put,pq1,pq2,pq3]
      refine qQa (by rfl) (by go_simp;rfl) ?_
      simp only [Act.put,pq1,pq2,pq3]
      refine qQa (by rfl) (by go_simp;rfl) ?_
      simp only [Act.put,pq1,pq2,pq3]
      refine qQa (by rfl) (qQr 30 (.tmp 34) (.tmp 35) rfl 124 Tryz.underlying30 4 IE.out b o n c j LT.out .i64 _ rfl (by rw [←AE.out];rfl) rfl _) ?_
      simp only [Act.put,pq1,pq2,pq3]
      refine qQa (by rfl) (by go_simp;rfl) ?_
      simp only [Act.put,pq1,pq2,pq3]
      refine qQa (by rfl) (qQq 9 (.tmp 37) rfl _ Tryz.underlying9 rfl rfl C0.out) ?_
      simp only [Act.put,pq1,pq2,pq3]
      refine qQa (by rfl) (by go_simp;rfl) ?_
      simp only [Act.put,pq1,pq2,pq3]
      refine qQa (by rfl) (qZx 9 _ (.tmp 38) (.tmp 39) rfl x' x H1.out rfl rfl _) ?_
      simp only [Act.put,pq1,pq2,pq3]
      refine qQa (by rfl) (by go_simp;rfl) ?_
      simp only [Act.put,pq1,pq2,pq3]
      refine qQl (by rfl) (by go_simp;rfl) ?_
      simp only [Act.put,pq1,pq2,pq3]
      refine qQl (by rfl) (by go_simp;rfl) ?_
      simp only [Act.put,pq1,pq2,pq3]
      refine qQl (by rfl) (by go_simp;rfl) ?_
      simp only [Act.put,pq1,pq2,pq3]
      refine qQl (by rfl) (qQr 30 (.tmp 43) (.tmp 44) rfl 124 Tryz.underlying30 4 IE.out b o n c j LT.out .i64 _ rfl (by rw [←AE.out];rfl) rfl _) ?_
      simp only [Act.put,pq1,pq2,pq3]
      refine qQl (by rfl) (by go_simp;rfl) ?_
      simp only [Act.put,pq1,pq2,pq3]
      refine qQl (by rfl) (qQq 9 (.tmp 46) rfl _ Tryz.underlying9 rfl rfl C1.out) ?_
      simp only [Act.put,pq1,pq2,pq3]
      refine qQl (by rfl) (by go_simp;rfl) ?_
      simp only [Act.put,pq1,pq2,pq3]
      refine qQl (by rfl) (qZx 9 _ (.tmp 47) (.tmp 48) rfl key' k H2.out rfl rfl _) ?_
      simp only [Act.put,pq1,pq2,pq3]
      refine qQa (by rfl) (by go_simp;rfl) ?_
      simp only [Act.put,pq1,pq2,pq3]
      refine qQa (by rfl) (by go_simp;rfl) ?_
      simp only [Act.put,pq1,pq2,pq3]
      refine qQl (by rfl) (by go_simp;rfl) ?_
      simp only [Act.put,pq1,pq2,pq3]
      refine qQl (by rfl) (by go_simp;rfl) ?_
      simp only [Act.put,pq1,pq2,pq3]
      refine qQl (by rfl) (by go_simp;rfl) ?_
      simp only [Act.put,pq1,pq2,pq3]
      refine qQl (by rfl) (qQr 30 (.tmp 53) (.tmp 54) rfl 124 Tryz.underlying30 4 IE.out b o n c j LT.out .i64 _ rfl (by rw [←AE.out];rfl) rfl _) ?_
      simp only [Act.put,pq1,pq2,pq3]
      refine qQl (by rfl) (by go_simp;rfl) ?_
      simp only [Act.put,pq1,pq2,pq3]
      refine qQl (by rfl) (qQq 9 (.tmp 56) rfl _ Tryz.underlying9 rfl rfl C2.out) ?_
      simp only [Act.put,pq1,pq2,pq3]
      refine qQl (by rfl) (by go_simp;rfl) ?_
      simp only [Act.put,pq1,pq2,pq3]
      refine qQl (by rfl) (qZx 9 _ (.tmp 57) (.tmp 58) rfl bs' bs H3.out rfl rfl _) ?_
      simp only [Act.put,pq1,pq2,pq3]
      go_wp2_with (first
       | (refine qQa rfl (qQr 30 (.tmp 62) (.tmp 63) rfl 124 Tryz.underlying30 4 IE.out b o n c j LT.out .i64 _ rfl (by rw [←AE.out];rfl) rfl _) ?_)
       | (refine qQa rfl (qQq 9 (.tmp 65) rfl _ Tryz.underlying9 rfl rfl C3.out) ?_))
      go_ret2
      rw[RS.out]
      exact⟨rfl,B1.out⟩
     ·have H3:=Lh h3
      have NN:=Lh (NX.out (fun h=>h3 h.2.2))
      clear h1 h2 h3
      go_upto_region 8 with fail
      refine wp_region_list ?_
      simp only [kQf]
      refine qQa (by rfl) (by go_simp;rfl) ?_
      simp only [Act.put,pq1,pq2,pq3]
      refine qQa (by rfl) (by go_simp;rfl) ?_
      simp only [Act.put,pq1,pq2,pq3]
      refine qQa (by rfl) (by go_simp;rfl) ?_
      simp only [Act.put,pq1,pq2,pq3]
      refine qQa (by rfl) (qQr 30 (.tmp 34) (.tmp 35) rfl 124 Tryz.underlying30 4 IE.out b o n c j LT.out .i64 _ rfl (by rw [←AE.out];rfl) rfl _) ?_
      simp only [Act.put,pq1,pq2,pq3]
      refine qQa (by rfl) (by go_simp;rfl) ?_
      simp only [Act.put,pq1,pq2,pq3]
      refine qQa (by rfl) (qQq 9 (.tmp 37) rfl _ Tryz.underlying9 rfl rfl C0.out) ?_
      simp only [Act.put,pq1,pq2,pq3]
      refine qQa (by rfl) (by go_simp;rfl) ?_
      simp only [Act.put,pq1,pq2,pq3]
      refine qQa (by rfl) (qZx 9 _ (.tmp 38) (.tmp 39) rfl x' x H1.out rfl rfl _) ?_
      simp only [Act.put,pq1,pq2,pq3]
      refine qQa (by rfl) (by go_simp;rfl) ?_
      simp only [Act.put,pq1,pq2,pq3]
      refine qQl (by rfl) (by go_simp;rfl) ?_
      simp only [Act.put,pq1,pq2,pq3]
      refine qQl (by rfl) (by go_simp;rfl) ?_
      simp only [Act.put,pq1,pq2,pq3]
      refine qQl (by rfl) (by go_simp;rfl) ?_
      simp only [Act.put,pq1,pq2,pq3]
      refine qQl (by rfl) (qQr 30 (.tmp 43) (.tmp 44) rfl 124 Tryz.underlying30 4 IE.out b o n c j LT.out .i64 _ rfl (by rw [←AE.out];rfl) rfl _) ?_
      simp only [Act.put,pq1,pq2,pq3]
      refine qQl (by rfl) (by go_simp;rfl) ?_
      simp only [Act.put,pq1,pq2,pq3]
      refine qQl (by rfl) (qQq 9 (.tmp 46) rfl _ Tryz.underlying9 rfl rfl C1.out) ?_
      simp only [Act.put,pq1,pq2,pq3]
      refine qQl (by rfl) (by go_simp;rfl) ?_
      simp only [Act.put,pq1,pq2,pq3]
      refine qQl (by rfl) (qZx 9 _ (.tmp 47) (.tmp 48) rfl key' k H2.out rfl rfl _) ?_
      simp only [Act.put,pq1,pq2,pq3]
      refine qQa (by rfl) (by go_simp;rfl) ?_
      simp only [Act.put,pq1,pq2,pq3]
      refine qQa (by rfl) (by go_simp;rfl) ?_
      simp only [Act.put,pq1,pq2,pq3]
      refine qQl (by rfl) (by go_simp;rfl) ?_
      simp only [Act.put,pq1,pq2,pq3]
      refine qQl (by rfl) (by go_simp;rfl) ?_
      simp only [Act.put,pq1,pq2,pq3]
      refine qQl (by rfl) (by go_simp;rfl) ?_
      simp only [Act.put,pq1,pq2,pq3]
      refine qQl (by rfl) (qQr 30 (.tmp 53) (.tmp 54) rfl 124 Tryz.underlying30 4 IE.out b o n c j LT.out .i64 _ rfl (by rw [←AE.out];rfl) rfl _) ?_
      simp only [Act.put,pq1,pq2,pq3]
      refine qQl (by rfl) (by go_simp;rfl) ?_
      simp only [Act.put,pq1,pq2,pq3]
      refine qQl (by rfl) (qQq 9 (.tmp 56) rfl _ Tryz.underlying9 rfl rfl C2.out) ?_
      simp only [Act.put,pq1,pq2,pq3]
      refine qQl (by rfl) (by go_simp;rfl) ?_
      simp only [Act.put,pq1,pq2,pq3]
      refine qQl (by rfl) ((qXC 9 _ (.tmp 57) (.tmp 58) rfl bs' bs rfl rfl _).trans (by rw [decide_eq_false H3.out])) ?_
      simp only [Act.put,pq1,pq2,pq3]
      go_wp2_with fail
      go_roundw
      case rel=>exact⟨j+1,by have:=LT.out;omega,by go_num,NN.out,trivial⟩
      case measure=>have:=LT.out;simp [intOf];omega
    ·have H2:=Lh h2
     have NN:=Lh (NX.out (fun h=>h2 h.2.1))
     clear h1 h2
     go_upto_region 8 with fail
     refine wp_region_list ?_
     simp only [kQf]
     refine qQa (by rfl) (by go_simp;rfl) ?_
     simp only [Act.put,pq1,pq2,pq3]
     refine qQa (by rfl) (by go_simp;rfl) ?_
     simp only [Act.put,pq1,pq2,pq3]
     refine qQa (by rfl) (by go_simp;rfl) ?_
     simp only [Act.put,pq1,pq2,pq3]
     refine qQa (by rfl) (qQr 30 (.tmp 34) (.tmp 35) rfl 124 Tryz.underlying30 4 IE.out b o n c j LT.out .i64 _ rfl (by rw [←AE.out];rfl) rfl _) ?_
     simp only [Act.put,pq1,pq2,pq3]
     refine qQa (by rfl) (by go_simp;rfl) ?_
     simp only [Act.put,pq1,pq2,pq3]
     refine qQa (by rfl) (qQq 9 (.tmp 37) rfl _ Tryz.underlying9 rfl rfl C0.out) ?_
     simp only [Act.put,pq1,pq2,pq3]
     refine qQa (by rfl) (by go_simp;rfl) ?_
     simp only [Act.put,pq1,pq2,pq3]
     refine qQa (by rfl) (qZx 9 _ (.tmp 38) (.tmp 39) rfl x' x H1.out rfl rfl _) ?_
     simp only [Act.put,pq1,pq2,pq3]
     refine qQa (by rfl) (by go_simp;rfl) ?_
     simp only [Act.put,pq1,pq2,pq3]
     refine qQl (by rfl) (by go_simp;rfl) ?_
     simp only [Act.put,pq1,pq2,pq3]
     refine qQl (by rfl) (by go_simp;rfl) ?_
     simp only [Act.put,pq1,pq2,pq3]
     refine qQl (by rfl) (by go_simp;rfl) ?_
     simp only [Act.put,pq1,pq2,pq3]
     refine qQl (by rfl) (qQr 30 (.tmp 43) (.tmp 44) rfl 124 Tryz.underlying30 4 IE.out b o n c j LT.out .i64 _ rfl (by rw [←AE.out];rfl) rfl _) ?_
     simp only [Act.put,pq1,pq2,pq3]
     refine qQl (by rfl) (by go_simp;rfl) ?_
     simp only [Act.put,pq1,pq2,pq3]
     refine qQl (by rfl) (qQq 9 (.tmp 46) rfl _ Tryz.underlying9 rfl rfl C1.out) ?_
     simp only [Act.put,pq1,pq2,pq3]
     refine qQl (by rfl) (by go_simp;rfl) ?_
     simp only [Act.put,pq1,pq2,pq3]
     refine qQl (by rfl) ((qXC 9 _ (.tmp 47) (.tmp 48) rfl key' k rfl rfl _).trans (by rw [decide_eq_false H2.out])) ?_
     simp only [Act.put,pq1,pq2,pq3]
     go_wp2_with fail
     go_roundw
     case rel=>exact⟨j+1,by have:=LT.out;omega,by go_num,NN.out,trivial⟩
     case measure=>have:=LT.out;simp [intOf];omega
   ·have H1:=Lh h1
    have NN:=Lh (NX.out (fun h=>h1 h.1))
    clear h1
    go_upto_region 8 with fail
    refine wp_region_list ?_
    simp only [kQf]
    refine qQa (by rfl) (by go_simp;rfl) ?_
    simp only [Act.put,pq1,pq2,pq3]
    refine qQa (by rfl) (by go_simp;rfl) ?_
    simp only [Act.put,pq1,pq2,pq3]
    refine qQa (by rfl) (by go_simp;rfl) ?_
    simp only [Act.put,pq1,pq2,pq3]
    refine qQa (by rfl) (qQr 30 (.tmp 34) (.tmp 35) rfl 124 Tryz.underlying30 4 IE.out b o n c j LT.out .i64 _ rfl (by rw [←AE.out];rfl) rfl _) ?_
    simp only [Act.put,pq1,pq2,pq3]
    refine qQa (by rfl) (by go_simp;rfl) ?_
    simp only [Act.put,pq1,pq2,pq3]
    refine qQa (by rfl) (qQq 9 (.tmp 37) rfl _ Tryz.underlying9 rfl rfl C0.out) ?_
    simp only [Act.put,pq1,pq2,pq3]
    refine qQa (by rfl) (by go_simp;rfl) ?_
    simp only [Act.put,pq1,pq2,pq3]
    refine qQa (by rfl) ((qXC 9 _ (.tmp 38) (.tmp 39) rfl x' x rfl rfl _).trans (by rw [decide_eq_false H1.out])) ?_
    simp only [Act.put,pq1,pq2,pq3]
    go_wp2_with fail
    go_roundw
    case rel=>exact⟨j+1,by have:=LT.out;omega,by go_num,NN.out,trivial⟩
    case measure=>have:=LT.out;simp [intOf];omega
  ·have hD:decide ((j:Int)<(n:Int))=false:=by simp;omega
   have RS:=Lh (show r=none by
    have h1:=K.out
    rw[kQn (by rw [HN.out];omega)]at h1
    rw[RH.out,Option.map_eq_none_iff,List.find?_eq_none]
    intro q hq
    simpa using h1 q hq)
   go_wp2_with fail
   go_ret2
   rw[RS.out]
   exact⟨rfl,B1.out⟩
theorem qVM (q:RBx) (hm:q.mode=0∨q.mode=1) (A:Option Addr) (n c:Nat) (hn:q.L.length=n) (hc:n≤c) (w:World) (hR:RdV w A (EC q.L)) (k bs t:List UInt8) (hk:k.length=32) (hbs:bs.length≤1000) (ht:t.length≤1000)
  (hF:q.F.length≤2900) (hu:q.u≤800000) (hL:n≤10000) :
  Calls Tryz.prog 34 #[.agg (RBC q.mode q.F q.u A n c),.string (strB k),.string (strB bs),.string (strB t)] w (RSealP w A (qX9 q k bs t)):=by
 obtain⟨m,F,u,L⟩:=q
 rcases hm with h|h
 ·cases h
  exact rbseal_real F u A n c L hn hc w hR k bs t hk hbs ht hF hu hL
 ·cases h
  exact rbseal_ideal F u A n c L hn hc w hR k bs t hbs ht hF hu hL
theorem qYw (q:RBx) (hm:q.mode=0∨q.mode=1) (A:Option Addr) (n c:Nat) (hn:q.L.length=n) (w:World) (hR:RdV w A (EC q.L)) (k bs x:List UInt8) (hk:k.length=32) (hbs:bs.length≤1000) (hx:x.length≤1000) (hL:n≤10000) :
  Calls Tryz.prog 38 #[.agg (RBC q.mode q.F q.u A n c),.string (strB k),.string (strB bs),.string (strB x)] w (ROpenP w (qXU q k bs x)):=by
 obtain⟨m,F,u,L⟩:=q
 rcases hm with h|h
 ·cases h
  exact rbopen_real F u A n c L w k bs x hk hbs hx
 ·cases h
  exact rbopen_ideal F u A n c L hn w hR k bs x (by omega)
end Go.Proofs.YtlocplkjokoknaaGreat
namespace Go.Proofs.YtlocplkjokoknaaGreat
open Go.RowKit
structure RelB (s:BSt) (q:RBx):Prop where
 mode:s.mode=q.mode
 F:s.F=q.F
 u:s.u=q.u
 n:s.n=q.L.length
 ideal:s.mode=1→s.m=q.L.map fun p=>(p.x,⟨p.key,p.beside,p.text⟩)
 known:∀y,qZB s.m y=qWu q.L y
theorem qJA (L:List REnt) (p:REnt) (y:List UInt8):qWu (L++[p]) y=(qWu L y||decide (y=p.x)):=by
 simp only [qWu,List.any_append,List.any_cons,List.any_nil,Bool.or_false]
 congr 1
 exact decide_eq_decide.2 eq_comm
theorem rel_ideal (t:Nat) (s:BSt) (q:RBx) (e:Ent) (h:RelB s q) (hm:s.mode=1):(qZf t s e).2=(qXX e.key e.beside e.text t q).2∧RelB (qZf t s e).1 (qXX e.key e.beside e.text t q).1:=by
 induction t generalizing s q with
 | zero=>exact⟨rfl,h⟩
 | succ t ih=>
  rw[qZf,qXX,h.F,h.u,h.known]
  split
  ·exact ih _ _ ⟨h.mode,rfl,rfl,h.n,h.ideal,h.known⟩ hm
  ·exact⟨rfl,h.mode,rfl,rfl,by simp only [kQj,List.length_cons,List.length_nil];rw [h.n],fun _=>by simp only [List.map_append,kQw,List.map_nil];rw [h.ideal hm],fun y=>by simp only [qJB,qJA,h.known y]⟩
theorem RelB.sealed {s s':BSt} {q:RBx} {e:Ent} {r:Option (List UInt8)} (h:RelB s q) (hs:SealR s e s' r):r=(qX9 q e.key e.beside e.text).2∧RelB s' (qX9 q e.key e.beside e.text).1:=by
 rcases hs with ⟨h1,h2⟩|⟨h0,h1,h2,h3,h4,h5,h6,_⟩
 ·have hr:=rel_ideal 8 s q e h h1
  rw[qX9,if_neg (by rw [←h.mode];omega)]
  rw[←h2]at hr
  exact hr
 ·rw [qX9,if_pos (by rw [←h.mode];exact h0)]
  have e1:qVd s e.key e.beside e.text=qQR q.F q.u 12++qWI e.key (qQR q.F q.u 12) e.beside e.text:=by rw [qVd,h.F,h.u]
  refine⟨by rw [h1,e1],by rw [h2,←h.mode,h0],by rw [h3,h.F],by rw [h4,h.u],by simp only [kQj,List.length_cons,List.length_nil];rw [h5,h.n],fun hh=>by omega,fun y=>?_⟩
  rw[h6,qJA,h.known,e1]
theorem RelB.opens {s:BSt} {q:RBx} (h:RelB s q) (hm:s.mode=0∨s.mode=1) (hu:s.mode=1→∀(i j:Nat) (x:List UInt8) (e e':Ent),s.m[i]?=some (x,e)→s.m[j]?=some (x,e')→i=j) (k bs x:List UInt8):qXn s k bs x=qXU q k bs x:=by
 rcases hm with h0|h1
 ·have e1:qXU q k bs x=_:=if_pos (show q.mode=0 by rw [←h.mode];exact h0)
  rw[qXn,if_pos h0,e1]
 ·rw [qXn,if_neg (by omega),qXU,if_neg (by rw [←h.mode];omega)]
  have hm:=h.ideal h1
  have hu:=hu h1
  rw[hm]at hu ⊢
  clear hm h
  generalize q.L=L at hu ⊢
  have hl:qXV (L.map fun p=>(p.x,(⟨p.key,p.beside,p.text⟩:Ent))) x=(L.find? fun p=>decide (p.x=x)).map fun p=>⟨p.key,p.beside,p.text⟩:=by
   rw[qXV,List.find?_map]
   simp only [Option.map_map,Function.comp_def]
  rw[hl]
  cases hf:L.find? fun p=>decide (p.x=x)with
  | none=>
   have h2:(L.find? fun p=>decide (p.x=x∧p.key=k∧p.beside=bs))=none:=by
    rw[List.find?_eq_none]at hf ⊢
    intro p hp
    have:=hf p hp
    simp only [decide_eq_true_eq]at this ⊢
    exact fun hh=>this hh.1
   rw[h2]
   rfl
  | some p=>
   simp only [kQo]
   have hpx:p.x=x:=by simpa using List.find?_some hf
   obtain⟨i,hi⟩:=List.getElem?_of_mem (List.mem_of_find?_eq_some hf)
   have one:∀p'∈L,p'.x=x→p'=p:=by
    intro p' hp' hx'
    obtain⟨j,hj⟩:=List.getElem?_of_mem hp'
    have:=hu i j x ⟨p.key,p.beside,p.text⟩ ⟨p'.key,p'.beside,p'.text⟩ (by rw [List.getElem?_map,hi];simp [hpx]) (by rw [List.getElem?_map,hj];simp [hx'])
    subst this
    rw[hi]at hj
    exact(Option.some.inj hj).symm
   by_cases hk:p.key=k∧p.beside=bs
   ·rw [if_pos hk]
    cases h2:L.find? fun p=>decide (p.x=x∧p.key=k∧p.beside=bs)with
    | none=>
     rw[List.find?_eq_none]at h2
     have:=h2 p (List.mem_of_find?_eq_some hf)
     simp only [decide_eq_true_eq]at this
     exact absurd ⟨hpx,hk⟩ this
    | some p'=>
     have h3:p'.x=x∧p'.key=k∧p'.beside=bs:=by simpa using List.find?_some h2
     rw[one p' (List.mem_of_find?_eq_some h2) h3.1]
     rfl
   ·rw [if_neg hk]
    have h2:(L.find? fun p=>decide (p.x=x∧p.key=k∧p.beside=bs))=none:=by
     rw[List.find?_eq_none]
     intro p' hp'
     simp only [decide_eq_true_eq]
     intro hh
     rw[one p' hp' hh.1]at hh
     exact hk hh.2
    rw[h2]
    rfl
theorem _root_.Go.Proofs.YtlocplkjokoknaaGreat.RdV.boxF {g S b:Nat} {w w':World} {A:Option Addr} {l:List Value} (h:RdV w A l) (hf:BoxF g S b w w') (hA:∀a,A=some a→a.block≠g∧a.block≠S∧a.block≠b):RdV w' A l:=by
 intro j v hj
 obtain⟨k,o,e,hc⟩:=h j v hj
 have h1:=hA _ e
 exact⟨k,o,e,by
  rw[←hc]
  have h2:=hf.2 k (World.block_lt_of_cell? _ _ hc) h1.1 h1.2.1 h1.2.2
  simp only [World.cell?,h2]⟩
theorem BoxB.raise {w0:World} {g S D b lo lo':Nat} {s:BSt} {W:World} (h:BoxB w0 g S D b lo s W) (hm:s.m=[]) (hl:lo≤lo'):BoxB w0 g S D b lo' s W:=by
 obtain⟨es,clock,m1,m2,m3⟩:=h.map.has
 have hes:es.toList=[]:=by
  rw[hm]at m3
  cases hq:es.toList with
  | nil=>rfl
  | cons x xs=>rw [hq]at m3;cases m3
 refine⟨h.bel,h.hg,h.hS,h.hD,h.hb,h.row,h.src,h.ltD,⟨⟨es,clock,m1,m2,?_⟩,h.map.small,kQb h.map.low hl⟩,h.gS,h.gD,h.gb,h.Sb,h.Db,kQb h.lg hl,kQb h.lS hl,h.few⟩
 rw[hes,hm]
 exact .nil
theorem BoxB.lt {w0:World} {g S D b lo:Nat} {s:BSt} {W:World} (h:BoxB w0 g S D b lo s W):g<W.heap.size∧S<W.heap.size∧D<W.heap.size∧b<W.heap.size:=⟨qQe h.row,h.src.lt,h.ltD,h.map.lt⟩
theorem SrcW.new {W W':World} {g D:Nat} {F:List UInt8} (h1:W.heap.size≤g) (h2:D<W'.heap.size) (h3:W.heap.size≤D) (h4:Src g D F 0 true W') (h5:Below W.heap.size W W'):SrcW W g D F 0 W':=⟨h5,h1,h3,h2,h4⟩
end Go.Proofs.YtlocplkjokoknaaGreat
namespace Go.Proofs.YtlocplkjokoknaaGreat
inductive Tr where
 | nil:Tr
 | nd:Tr→Nat→Tr→Tr
def Tr.ins (x:Nat):Tr→Option Tr
 | .nil=>some (.nd .nil x .nil)
 | .nd l y r=>if Nat.blt x y then(l.ins x).map (fun l'=>.nd l' y r)else if Nat.blt y x then(r.ins x).map (fun r'=>.nd l y r')else none
def Tr.mem (z:Nat):Tr→Prop
 | .nil=>False
 | .nd l y r=>z=y∨l.mem z∨r.mem z
def Tr.ok:Tr→Prop
 | .nil=>True
 | .nd l y r=>l.ok∧r.ok∧(∀z,l.mem z→z<y)∧(∀z,r.mem z→y<z)
theorem Tr.ins_spec (x:Nat):∀(t t':Tr),t.ok→t.ins x=some t'→t'.ok∧(∀z,t'.mem z↔z=x∨t.mem z)∧¬t.mem x
 | .nil,t',_,h=>by
  simp only [Tr.ins,Option.some.injEq]at h
  subst h
  simp [Tr.ok,Tr.mem]
 | .nd l y r,t',hok,h=>by
  obtain⟨h1,h2,h3,h4⟩:=hok
  simp only [Tr.ins,Nat.blt_eq]at h
  split at h
  ·rename_i hlt
   obtain⟨l',hl,rfl⟩:=Option.map_eq_some_iff.1 h
   obtain⟨a,b,c⟩:=Tr.ins_spec x l l' h1 hl
   refine⟨⟨a,h2,fun z hz=>?_,h4⟩,fun z=>?_,?_⟩
   ·rcases (b z).1 hz with rfl|hz
    ·exact hlt
    ·exact h3 z hz
   ·simp only [Tr.mem,b z]
    constructor
    ·rintro(h|(h|h)|h)
     ·exact .inr (.inl h)
     ·exact .inl h
     ·exact .inr (.inr (.inl h))
     ·exact .inr (.inr (.inr h))
    ·rintro(h|h|h|h)
     ·exact .inr (.inl (.inl h))
     ·exact .inl h
     ·exact .inr (.inl (.inr h))
     ·exact .inr (.inr h)
   ·rintro(h|h|h)
    ·omega
    ·exact c h
    ·have:=h4 x h;omega
  ·rename_i hge
   split at h
   ·rename_i hlt
    obtain⟨r',hl,rfl⟩:=Option.map_eq_some_iff.1 h
    obtain⟨a,b,c⟩:=Tr.ins_spec x r r' h2 hl
    refine⟨⟨h1,a,h3,fun z hz=>?_⟩,fun z=>?_,?_⟩
    ·rcases (b z).1 hz with rfl|hz
     ·exact hlt
     ·exact h4 z hz
    ·simp only [Tr.mem,b z]
     constructor
     ·rintro(h|h|h|h)
      ·exact .inr (.inl h)
      ·exact .inr (.inr (.inl h))
      ·exact .inl h
      ·exact .inr (.inr (.inr h))
     ·rintro(h|h|h|h)
      ·exact .inr (.inr (.inl h))
      ·exact .inl h
      ·exact .inr (.inl h)
      ·exact .inr (.inr (.inr h))
    ·rintro(h|h|h)
     ·omega
     ·have:=h3 x h;omega
     ·exact c h
   ·cases h
def qYP:List Nat→Tr→Option Tr
 | [],t=>some t
 | x::l,t=>(t.ins x).bind (qYP l)
theorem qK8:∀(l:List Nat) (t t':Tr),t.ok→qYP l t=some t'→l.Nodup∧∀x∈l,¬t.mem x
 | [],_,_,_,_=>by simp
 | x::l,t,t',hok,h=>by
  simp only [qYP,Option.bind_eq_some_iff]at h
  obtain⟨u,hu,h⟩:=h
  obtain⟨a,b,c⟩:=Tr.ins_spec x t u hok hu
  obtain⟨d,e⟩:=qK8 l u t' a h
  refine⟨List.nodup_cons.2 ⟨fun hx=>e x hx ((b x).2 (.inl rfl)),d⟩,fun z hz=>?_⟩
  rcases List.mem_cons.1 hz with rfl|hz
  ·exact c
  ·exact fun hm=>e z hz ((b z).2 (.inr hm))
def valO:Nat→List Nat→Nat
 | a,[]=>a
 | a,c::l=>valO (a*256+c) l
def wins (B:Nat):Nat→List Nat→List Nat
 | _,[]=>[]
 | w,c::l=>(w*256+c) % B::wins B ((w*256+c) % B) l
theorem valO_mod (B:Nat) (l:List Nat):∀a,valO (a % B) l % B=valO a l % B:=by
 induction l with
 | nil=>intro a;simp [valO]
 | cons c l ih=>
  intro a
  simp only [valO]
  rw[←ih (a % B*256+c),←ih (a*256+c)]
  have e:(a % B*256+c) % B=(a*256+c) % B:=by
   rw[Nat.add_mod (a % B*256),Nat.add_mod (a*256),Nat.mul_mod (a % B),Nat.mod_mod,←Nat.mul_mod]
  rw[e]
theorem wins_get (B:Nat) (l:List Nat):∀(w u:Nat),u<l.length→(wins B w l)[u]?=some (valO w (l.take (u+1)) % B):=by
 induction l with
 | nil=>intro w u h;simp at h
 | cons c l ih=>
  intro w u h
  cases u with
  | zero=>simp [wins,valO]
  | succ u=>
   simp only [wins,kQe,List.take_succ_cons,valO]
   rw[ih _ u (by simpa using h),valO_mod]
theorem valO_app (l l':List Nat):∀a,valO a (l++l')=valO (valO a l) l':=by
 induction l with
 | nil=>intro a;rfl
 | cons c l ih=>intro a;simp [valO,ih]
theorem valO_low (l:List Nat):∀a,valO a l % 256 ^ l.length=valO 0 l % 256 ^ l.length:=by
 have key:∀(l:List Nat) a,valO a l=a*256 ^ l.length+valO 0 l:=by
  intro l
  induction l with
  | nil=>intro a;simp [valO]
  | cons c l ih=>
   intro a
   simp only [valO,List.length_cons]
   rw[ih (a*256+c),ih (0*256+c),Nat.add_mul,Nat.pow_succ,Nat.mul_assoc a 256,Nat.mul_comm 256 (256 ^ l.length)]
   simp only [Nat.zero_mul,Nat.zero_add]
   omega
 intro a
 rw[key l a,Nat.add_comm,Nat.add_mul_mod_self_right]
def natT (T:List UInt8):List Nat:=T.map (·.toNat)
theorem once {T:List UInt8} {k:Nat} {t:Tr} (h:qYP (wins (256 ^ (k+1)) (valO 0 (natT (T.take k))) (natT (T.drop k))) .nil=some t) (u v:Nat) (hu:u+(k+1)≤T.length) (hv:v+(k+1)≤T.length) (he:(T.drop u).take (k+1)=(T.drop v).take (k+1)):u=v:=by
 have hn:=(qK8 _ _ _ (by trivial) h).1
 have val:∀u,u+(k+1)≤T.length→(wins (256 ^ (k+1)) (valO 0 (natT (T.take k))) (natT (T.drop k)))[u]?=some (valO 0 (natT ((T.drop u).take (k+1))) % 256 ^ (k+1)):=by
  intro u hu
  have hl:u<(natT (T.drop k)).length:=by simp [natT];omega
  rw[wins_get _ _ _ u hl]
  have e1:valO (valO 0 (natT (T.take k))) ((natT (T.drop k)).take (u+1))=valO 0 (natT (T.take (k+(u+1)))):=by
   rw[←valO_app]
   congr 1
   simp only [natT]
   rw[←List.map_take,←List.map_append,←List.take_add]
  have e2:T.take (k+(u+1))=T.take u++(T.drop u).take (k+1):=by
   rw[show k+(u+1)=u+(k+1) by omega,List.take_add]
  rw[e1,e2]
  have e3:natT (T.take u++(T.drop u).take (k+1))=natT (T.take u)++natT ((T.drop u).take (k+1)):=by simp [natT]
  have e4:(natT ((T.drop u).take (k+1))).length=k+1:=by simp [natT];omega
  rw[e3,valO_app]
  have:=valO_low (natT ((T.drop u).take (k+1))) (valO 0 (natT (T.take u)))
  rw[e4]at this
  rw[this]
 have h1:=val u hu
 have h2:=val v hv
 rw[←he]at h2
 have l1:=(List.getElem?_eq_some_iff.1 h1).1
 rw[←h2]at h1
 exact(List.getElem?_inj l1 hn).1 h1
theorem told_once {F T:List UInt8} (hT:∀i,i<T.length→qJ8 F i=T.getD i 0) {k:Nat} {t:Tr} (h:qYP (wins (256 ^ (k+1)) (valO 0 (natT (T.take k))) (natT (T.drop k))) .nil=some t)
  (u v n:Nat) (hn:k+1≤n) (hu:u+n≤T.length) (hv:v+n≤T.length) (he:qQR F u n=qQR F v n):u=v:=by
 have cut:∀u,u+n≤T.length→(qQR F u n).take (k+1)=(T.drop u).take (k+1):=by
  intro u hu
  apply List.ext_getElem
  ·rw [kQp,qQy,kQp,kQv];omega
  ·intro i h1 h2
   rw[kQp,qQy]at h1
   simp only [List.getElem_take,List.getElem_drop,qQR,List.getElem_map,List.getElem_range]
   rw[hT (u+i) (by omega)]
   simp [kQa,show u+i<T.length by omega]
 exact once h u v (by omega) (by omega) (by rw [←cut u hu,←cut v hv,he])
theorem flat_get:∀(B:List (List UInt8)),(∀b∈B,b.length=32)→∀i,i/32<B.length→(B.flatten)[i]?.getD 0=(B.getD (i/32) []).getD (i % 32) 0
 | [],_,i,h=>by simp at h
 | b::B,hb,i,h=>by
  have hb32:b.length=32:=hb b (by simp)
  rw[List.flatten_cons]
  by_cases hi:i<32
  ·rw [List.getElem?_append_left (by omega),Nat.div_eq_of_lt hi,Nat.mod_eq_of_lt hi]
   simp [kQa]
  ·rw [kQq (by omega),hb32]
   have h1:i/32=(i-32)/32+1:=by omega
   have h2:i % 32=(i-32) % 32:=by omega
   rw[h1,h2,flat_get B (fun x hx=>hb x (by simp [hx])) (i-32) (by rw [h1]at h;simpa using h)]
   simp [kQa]
end Go.Proofs.YtlocplkjokoknaaGreat
namespace Go.Proofs.YtlocplkjokoknaaGreat
open Go.RowKit
attribute [local go_sem ↓] Go.wp_at_zero Go.wp_at_succ
theorem OpenP.yes {w:World} {t:List UInt8} {e:Ending} {w':World} (h:OpenP w (some t) e w'):(∃v,e=.returned (.tuple #[v,.bool true])∧OwnB w' w.heap.size v t)∧Below w.heap.size w w':=h
theorem OpenP.no {w:World} {e:Ending} {w':World} (h:OpenP w none e w'):e=.returned (.tuple #[.slice none 0 0,.bool false])∧Below w.heap.size w w':=h
def keyK (x:UInt8):List UInt8:=[x,0,0,0,0,0,0,0,0,0,0,0,0,0,0,0,0,0,0,0,0,0,0,0,0,0,0,0,0,0,0,0]
theorem qKq {o:Oper} {a:Act} (y:Operand) (ho:o.op=.build 38 #[(0,y)]) (x:UInt8) (hy:a.eval y=.int .u8 (x.toNat:Int)) (W:World):(execOp a.eval o).run Tryz.prog W=.ok (.value (.agg (W8 (keyK x)))) W:=by
 have h2:∀(z:Int) (W:World),(Instr.build 38 #[(0,.int .u8 z)]).run Tryz.prog W=.ok (.agg #[.int .u8 z,.int .u8 0,.int .u8 0,.int .u8 0,.int .u8 0,.int .u8 0,.int .u8 0,.int .u8 0,.int .u8 0,.int .u8 0,.int .u8 0,.int .u8 0,.int .u8 0,.int .u8 0,.int .u8 0,.int .u8 0,.int .u8 0,.int .u8 0,.int .u8 0,.int .u8 0,.int .u8 0,.int .u8 0,.int .u8 0,.int .u8 0,.int .u8 0,.int .u8 0,.int .u8 0,.int .u8 0,.int .u8 0,.int .u8 0,.int .u8 0,.int .u8 0]) W:=by
  intro z W
  kernel_rfl
 unfold execOp
 simp only [ho,kQs,kQw,List.map_nil,hy,Sem.run_bind,h2,Result.andThen_ok,Sem.run_pure]
 rfl
theorem qJM {W W':World} {b o:Nat} {v:Value} (h:W.cell? ⟨b,o,none⟩=some v) (hw:W'.heap[b]?=W.heap[b]?):W'.cell? ⟨b,o,none⟩=some v:=by
 rw[←h]
 simp only [World.cell?,hw]
theorem cell_lt {W:World} {b o:Nat} {v:Value} (h:W.cell? ⟨b,o,none⟩=some v):b<W.heap.size:=by
 rcases Nat.lt_or_ge b W.heap.size with hb|hb
 ·exact hb
 ·unfold World.cell? at h
  rw[Array.getElem?_eq_none hb]at h
  simp at h
def WinB (s:BSt):Prop:=∀p∈s.m,∃v,p.1=qQR s.F v p.1.length∧v+p.1.length≤s.u∧28≤p.1.length
def OnceS (F:List UInt8) (N:Nat):Prop:=∀u v n,28≤n→u+n≤N→v+n≤N→qQR F u n=qQR F v n→u=v
theorem fresh_ideal {N:Nat} (s:BSt) (e:Ent) (ho:OnceS s.F N) (hw:WinB s) (hN:s.u+(e.text.length+28)≤N) :
  qZf 8 s e=({ s with u:=s.u+(e.text.length+28),m:=s.m++[(qQR s.F s.u (e.text.length+28),e)],n:=s.n+1 },some (qQR s.F s.u (e.text.length+28)))∧WinB { s with u:=s.u+(e.text.length+28),m:=s.m++[(qQR s.F s.u (e.text.length+28),e)],n:=s.n+1 }∧qZB s.m (qQR s.F s.u (e.text.length+28))=false:=by
 have hk:qZB s.m (qQR s.F s.u (e.text.length+28))=false:=by
  simp only [qZB,List.any_eq_false,decide_eq_true_eq]
  intro p hp heq
  obtain⟨v,h1,h2,h3⟩:=hw p hp
  have hl:p.1.length=e.text.length+28:=by rw [heq,qQy]
  rw[hl]at h1 h2
  rw[heq]at h1
  have:=ho _ _ _ (by omega) hN (by omega) h1
  omega
 refine⟨?_,?_,hk⟩
 ·rw [show(8:Nat)=7+1 from rfl,qZf,hk]
  rfl
 ·intro p hp
  rcases List.mem_append.mp hp with hp|hp
  ·obtain⟨v,h1,h2,h3⟩:=hw p hp
   exact⟨v,h1,by show _≤s.u+(e.text.length+28);omega,h3⟩
  ·simp only [List.mem_cons,List.mem_nil_iff,or_false]at hp
   rw[hp]
   refine⟨s.u,?_,?_,?_⟩<;>simp only [qQy]
   ·exact kQh _
   ·omega
def GoodX (s:BSt) (e:Ent) (x:List UInt8):Prop:=(s.mode=0∧∃s0,x=qVd s0 e.key e.beside e.text)∨(s.mode=1∧qXV s.m x=some e)
theorem lookM_old {m l:List (List UInt8×Ent)} {x:List UInt8} {e:Ent} (h:qXV m x=some e):qXV (m++l) x=some e:=by
 simp only [qXV,Option.map_eq_some_iff]at h ⊢
 obtain⟨p,hp,h2⟩:=h
 exact⟨p,by rw [List.find?_append,hp];rfl,h2⟩
theorem GoodX.opens {s:BSt} {e:Ent} {x:List UInt8} (h:GoodX s e x):qXn s e.key e.beside x=some e.text:=by
 rcases h with ⟨h0,s0,rfl⟩|⟨h1,h2⟩
 ·rw [open_real s h0]
  exact openL_seal _ _ _ _
 ·rw [qXn,if_neg (by omega),h2]
  simp
theorem seal_good {N:Nat} {s s':BSt} {e:Ent} {r:Option (List UInt8)} (hs:SealR s e s' r) (ho:OnceS s.F N) (hw:s.mode=1→WinB s) (hN:s.u+(e.text.length+28)≤N) :
  ∃x,r=some x∧x.length=e.text.length+28∧GoodX s' e x∧(∀e' x',GoodX s e' x'→GoodX s' e' x')∧(s'.mode=1→WinB s')∧s'.u≤s.u+(e.text.length+28):=by
 have hmode:=hs.mode.1
 rcases hs with ⟨h1,h2⟩|⟨h0,h1,h2,h3,h4,h5,h6,h7⟩
 ·obtain⟨e1,e2,e3⟩:=fresh_ideal s e ho (hw h1) hN
  rw[e1]at h2
  injection h2 with h2 h3
  refine⟨_,h3,qQy _ _ _,.inr ⟨by rw [h2];exact h1,by rw [h2];exact qKi e3⟩,fun e' x' hg=>?_,fun _=>by rw [h2];exact e2,by rw [h2];exact kQh _⟩
  rcases hg with ⟨h0,_⟩|⟨_,hl⟩
  ·omega
  ·exact .inr ⟨by rw [h2];exact h1,by rw [h2];exact lookM_old hl⟩
 ·refine⟨_,h1,qVp _ _ _ _,.inl ⟨h2,s,rfl⟩,fun e' x' hg=>?_,fun hh=>by omega,by omega⟩
  rcases hg with ⟨_,hl⟩|⟨h8,_⟩
  ·exact .inl ⟨h2,hl⟩
  ·omega
def SlA (base:Nat) (r:Option Nat) (W:World) (v:Value) (l:List UInt8):Prop:=∃A c,v=.slice A l.length c∧l.length≤c∧RdB W A l∧∀a,A=some a→base≤a.block∧a.block<W.heap.size∧some a.block≠r
theorem SlA.keep {base:Nat} {r:Option Nat} {W W':World} {v:Value} {l:List UInt8} (h:SlA base r W v l) (hb:Below W.heap.size W W'):SlA base r W' v l:=by
 obtain⟨A,c,h1,h2,h3,h4⟩:=h
 exact⟨A,c,h1,h2,h3.keep hb,fun a e=>⟨(h4 a e).1,kQb (h4 a e).2.1 hb.size,(h4 a e).2.2⟩⟩
theorem SlA.boxF {base:Nat} {r:Option Nat} {W W':World} {v:Value} {l:List UInt8} {g S b:Nat} (h:SlA base r W v l) (hf:BoxF g S b W W') (hl:g<base∧S<base∧b<base):SlA base r W' v l:=by
 obtain⟨A,c,h1,h2,h3,h4⟩:=h
 exact⟨A,c,h1,h2,h3.boxF hf (fun _ a e=>by have:=(h4 a e).1;omega),fun a e=>⟨(h4 a e).1,kQb (h4 a e).2.1 hf.1,(h4 a e).2.2⟩⟩
theorem SlA.app {base:Nat} {r r':Option Nat} {W W':World} {v:Value} {l:List UInt8} (h:SlA base r W v l) (hg:W.grownBy W' r) (hr:r'=r∨r'=some W.heap.size):SlA base r' W' v l:=by
 obtain⟨A,c,h1,h2,h3,h4⟩:=h
 refine⟨A,c,h1,h2,h3.grown hg (fun g e a ea=>fun hh=>(h4 a ea).2.2 (by rw [hh,e])),fun a e=>⟨(h4 a e).1,kQb (h4 a e).2.1 hg.size,?_⟩⟩
 rcases hr with rfl|rfl
 ·exact(h4 a e).2.2
 ·intro hh
  have:=(h4 a e).2.1
  have:=Option.some.inj hh
  omega
theorem OwnV.boxF {base:Nat} {e:TypeId} {W W':World} {v:Value} {l:List Value} {g S b:Nat} (h:OwnV W base e v l) (hf:BoxF g S b W W') (hl:g<base∧S<base∧b<base):OwnV W' base e v l:=by
 refine⟨h.1,?_⟩
 rcases h.2 with h2|⟨q,cap,cur,hv,hg,hh,hr⟩
 ·exact .inl h2
 ·exact .inr ⟨q,cap,cur,hv,hg,(hf.2 q (qQe hh) (by omega) (by omega) (by omega)).trans hh,hr⟩
theorem idealL_mm (t:Nat) (s:BSt) (e:Ent):(qZf t s e).1.m=s.m∨∃x,(qZf t s e).1.m=s.m++[(x,e)]:=by
 induction t generalizing s with
 | zero=>exact .inl rfl
 | succ t ih=>
  rw[qZf]
  split
  ·exact ih { s with u:=s.u+(e.text.length+28) }
  ·exact .inr ⟨_,rfl⟩
theorem qWZ {s s':BSt} {e:Ent} {r:Option (List UInt8)} (hs:SealR s e s' r) (n:Nat) (h:∀p∈s.m,s.mode=1→p.2.text.length≤n) (he:e.text.length≤n):∀p∈s'.m,s'.mode=1→p.2.text.length≤n:=by
 rcases hs with ⟨h1,h2⟩|⟨h0,_,h2,_⟩
 ·have e1:s'=(qZf 8 s e).1:=by rw [←h2]
  intro p hp _
  rw[e1]at hp
  rcases idealL_mm 8 s e with h3|⟨x,h3⟩<;>rw [h3]at hp
  ·exact h p hp h1
  ·rcases List.mem_append.mp hp with hp|hp
   ·exact h p hp h1
   ·simp only [List.mem_cons,List.mem_nil_iff,or_false]at hp
    rw[hp]
    exact he
 ·intro p _ hh
  omega
theorem OwnV.typed {W:World} {base:Nat} {e:TypeId} {v:Value} {l:List Value} (h:OwnV W base e v l):∀q,v.ownBlock=some q→base≤q∧∃cur fr,W.heap[q]?=some (.cells cur e fr):=by
 intro q hq
 rcases h.2 with ⟨hv,_⟩|⟨g,cap,cur,hv,hb,hh,_⟩
 ·rw [hv]at hq;cases hq
 ·rw [hv]at hq
  cases hq
  exact⟨hb,cur,_,hh⟩
structure Mem where
 n:Int
 k:List UInt8
 o:Bool
def RowM (z:Mem):List Value:=.int .i64 z.n::(B8 z.k++[.bool z.o])
def OkM (z:Mem):Prop:=z.k.length=32∧-9223372036854775808≤z.n∧z.n≤9223372036854775807
def RdM (W:World) (A:Option Addr) (zs:List Mem):Prop:=∀j z,zs[j]?=some z→OkM z∧∃b o,A=some ⟨b,o,none⟩∧W.rangeAt b (o+j*34) (RowM z)
theorem qQ7 {z:Mem} (h:OkM z):(RowM z).length=34:=by simp [RowM,qQt,h.1]
theorem qQ4 {W W':World} {b o:Nat} {l:List Value} (h:W.rangeAt b o l) (hb:Below W.heap.size W W'):W'.rangeAt b o l:=fun i v hi=>(qQJ hb).cell (h i v hi) (fun er=>by cases er)
theorem RdM.keep {W W':World} {A:Option Addr} {zs:List Mem} (h:RdM W A zs) (hb:Below W.heap.size W W'):RdM W' A zs:=by
 intro j z hj
 obtain⟨h1,b,o,e,hr⟩:=h j z hj
 exact⟨h1,b,o,e,qQ4 hr hb⟩
theorem RdM.take {W:World} {A:Option Addr} {zs:List Mem} (h:RdM W A zs) (n:Nat):RdM W A (zs.take n):=by
 intro j z hj
 rw[List.getElem?_take]at hj
 split at hj
 ·exact h j z hj
 ·cases hj
theorem RdM.ok {W:World} {A:Option Addr} {zs:List Mem} (h:RdM W A zs):∀z∈zs,OkM z:=by
 intro z hz
 obtain⟨j,hj⟩:=List.getElem?_of_mem hz
 exact(h j z hj).1
theorem RdM.nil (W:World) (A:Option Addr):RdM W A []:=fun j z hj=>by simp at hj
theorem RdM.at {W:World} {A:Option Addr} {zs:List Mem} (h:RdM W A zs) {j:Nat} (hj:j<zs.length):∃z b o,zs[j]?=some z∧OkM z∧A=some ⟨b,o,none⟩∧W.rangeAt b (o+j*34) (RowM z):=by
 obtain⟨h1,b,o,e,hr⟩:=h j _ (kQi hj)
 exact⟨_,b,o,kQi hj,h1,e,hr⟩
theorem rowM_o {z:Mem} (h:z.k.length=32):(RowM z).toArray[33]?=some (.bool z.o):=by
 rw[kQd,RowM,kQe,kQq (by rw [qQt,h];omega),qQt,h]
 rfl
theorem qVK (z:Mem):(RowM z).toArray.all (·.oneCell')=true:=all_oneCell_toArray (by
 intro v hv
 simp only [RowM,B8,List.mem_cons,List.mem_append,List.mem_map,List.mem_nil_iff,or_false]at hv
 rcases hv with rfl|⟨x,_,rfl⟩|rfl<;>rfl)
theorem qQ5 {W:World} {M:Nat} {l:List Value} {T:TypeId} {fr:Nat×Nat} (h:W.heap[M]?=some (.cells l.toArray T fr)):W.rangeAt M 0 l:=fun j v hj=>qQg h (0+j) (by rw [Nat.zero_add,kQd,hj])
theorem qKQ {W:World} {b o:Nat} {l x y:List Value} (h:W.rangeAt b o l) (n:Nat) (e:l=x++y) (hx:n=x.length):W.rangeAt b (o+n) y:=by
 intro j v hj
 have h1:=h (n+j) v (by rw [e,hx,kQq (by omega),Nat.add_sub_cancel_left,hj])
 rwa [←Nat.add_assoc]at h1
theorem qJ3 {W:World} {b o:Nat} {l x y:List Value} (h:W.rangeAt b o l) (e:l=x++y):W.rangeAt b o x:=by
 intro j v hj
 exact h j v (by rw [e,List.getElem?_append_left (List.getElem?_eq_some_iff.1 hj).1,hj])
theorem qWM {W:World} {b o:Nat} {z:Mem} (h:W.rangeAt b o (RowM z)):W.rangeAt b (o+1) (B8 z.k):=
 qJ3 (qKQ h 1 (x:=[.int .i64 z.n]) (y:=B8 z.k++[.bool z.o]) rfl rfl) rfl
theorem qZC:(Tryz.prog.info? 63).map (·.size)=some 34:=by kernel_rfl
theorem qWv {k:List UInt8} (h:k.length=32):(Tryz.prog.info? 38).map (·.size)=some (B8 k).length:=by rw [qQt,h];kernel_rfl
theorem flag_any (w:World) (o:Bool):Calls Tryz.prog 66 #[.bool o] w fun e w'=>e=.returned (.int .u8 ((if o then(1:UInt8)else 0).toNat:Int))∧w'=w:=by
 go_enter Tryz.func66,Tryz.ntmps66
 cases o
 ·go_wp2_with fail
  go_ret
  exact⟨rfl,rfl⟩
 ·go_wp2_with fail
  go_ret
  exact⟨rfl,rfl⟩
theorem owns_any (w:World) (z:Mem) (hz:OkM z):Calls Tryz.prog 30 #[.agg (RowM z).toArray] w fun e w'=>e=.returned (.bool z.o)∧Below w.heap.size w w':=by
 obtain⟨cs,hcs⟩:∃cs,cs=RowM z:=⟨_,rfl⟩
 rw[←hcs]
 have CE:=Lh hcs
 have C1:=Lh (show cs.toArray.all (·.oneCell')=true by rw [hcs];exact qVK z)
 have CL:=Lh (show(Tryz.prog.info? 63).map (·.size)=some cs.toArray.size by rw [hcs];simp only [List.size_toArray,qQ7 hz];exact qZC)
 have CO:=Lh (show cs.toArray[33]?=some (.bool z.o) by rw [hcs];exact rowM_o hz.1)
 clear hcs
 go_enter Tryz.func30,Tryz.ntmps30
 go_upto_region 1 with fail
 generalize hM:Array.size (World.heap w)=M
 generalize hw1:World.alloc w _=w1
 have B1:=Lh (show Below w.heap.size w w1 by rw [←hw1];exact qQh _ _)
 have R1:=Lh (show w1.heap[M]?=some (.cells cs.toArray 63 (0,0)) by rw [←hw1];exact qQk _ _ _ hM.symm)
 clear hw1 hM
 refine wp_region_list ?_
 simp only [kQf]
 refine qQa (by rfl) (by go_simp;rfl) ?_
 simp only [Act.put,pq1,pq2,pq3]
 refine qQa (by rfl) (qQq 4 (.tmp 3) rfl _ Tryz.underlying4 rfl rfl (qQg R1.out 33 CO.out)) ?_
 simp only [Act.put,pq1,pq2,pq3]
 go_wp2_with fail
 go_ret
 exact⟨rfl,B1.out⟩
theorem checkc_any (w:World) (z y:Mem) (hz:OkM z) (hy:OkM y) (G:Nat) (T:TypeId) (fr:Nat×Nat) (hG:w.heap[G]?=some (.cells (RowM y).toArray T fr)) :
  Calls Tryz.prog 31 #[.agg (RowM z).toArray,.pointer (some ⟨G,0,none⟩)] w fun e w'=>e=.returned (.bool (decide (z.n=y.n)||decide (z.k=y.k)))∧Below w.heap.size w w':=by
 obtain⟨cs,hcs⟩:∃cs,cs=RowM z:=⟨_,rfl⟩
 obtain⟨cy,hcy⟩:∃cy,cy=RowM y:=⟨_,rfl⟩
 rw[←hcs]
 rw[←hcy]at hG
 have CE:=Lh hcs
 have YE:=Lh hcy
 have HG:=Lh hG
 have CL:=Lh (show(Tryz.prog.info? 63).map (·.size)=some cs.toArray.size by rw [hcs];simp only [List.size_toArray,qQ7 hz];exact qZC)
 have KZ:=Lh (qWv hz.1)
 have KY:=Lh (qWv hy.1)
 have LZ:=Lh hz.1
 have LY:=Lh hy.1
 clear hcs hcy hG hz hy
 by_cases hn:z.n=y.n
 ·have hD:decide (z.n=y.n)=true:=by simpa using hn
  go_enter Tryz.func31,Tryz.ntmps31
  go_upto_region 1 with fail
  generalize hM:Array.size (World.heap w)=M
  generalize hw1:World.alloc w _=w1
  have B1:=Lh (show Below w.heap.size w w1 by rw [←hw1];exact qQh _ _)
  have R1:=Lh (show w1.heap[M]?=some (.cells cs.toArray 63 (0,0)) by rw [←hw1];exact qQk _ _ _ hM.symm)
  have G1:=Lh (show w1.heap[G]?=some (.cells cy.toArray T fr)from qQb B1.out (qQe HG.out) HG.out)
  clear hw1 hM HG
  refine wp_region_list ?_
  simp only [kQf]
  refine qQa (by rfl) (by go_simp;rfl) ?_
  simp only [Act.put,pq1,pq2,pq3]
  refine qQa (by rfl) (qQq 3 (.tmp 4) rfl _ Tryz.underlying3 rfl rfl (qQg R1.out 0 (show cs.toArray[0]?=some (.int .i64 z.n) by rw [CE.out];rfl))) ?_
  simp only [Act.put,pq1,pq2,pq3]
  refine qQa (by rfl) (by go_simp;rfl) ?_
  simp only [Act.put,pq1,pq2,pq3]
  refine qQa (by rfl) (qQq 3 (.tmp 6) rfl _ Tryz.underlying3 rfl rfl (qQg G1.out 0 (show cy.toArray[0]?=some (.int .i64 y.n) by rw [YE.out];rfl))) ?_
  simp only [Act.put,pq1,pq2,pq3]
  refine qQa (by rfl) (by go_simp;rfl) ?_
  simp only [Act.put,pq1,pq2,pq3]
  refine qQa (by rfl) (by go_simp;rfl) ?_
  simp only [Act.put,pq1,pq2,pq3]
  go_wp2_with fail
  go_ret
  exact⟨by rw [hD];rfl,B1.out⟩
 ·have hD:decide (z.n=y.n)=false:=by simpa using hn
  go_enter Tryz.func31,Tryz.ntmps31
  go_upto_region 1 with fail
  generalize hM:Array.size (World.heap w)=M
  generalize hw1:World.alloc w _=w1
  have B1:=Lh (show Below w.heap.size w w1 by rw [←hw1];exact qQh _ _)
  have R1:=Lh (show w1.heap[M]?=some (.cells cs.toArray 63 (0,0)) by rw [←hw1];exact qQk _ _ _ hM.symm)
  have G1:=Lh (show w1.heap[G]?=some (.cells cy.toArray T fr)from qQb B1.out (qQe HG.out) HG.out)
  clear hw1 hM HG
  refine wp_region_list ?_
  simp only [kQf]
  refine qQa (by rfl) (by go_simp;rfl) ?_
  simp only [Act.put,pq1,pq2,pq3]
  refine qQa (by rfl) (qQq 3 (.tmp 4) rfl _ Tryz.underlying3 rfl rfl (qQg R1.out 0 (show cs.toArray[0]?=some (.int .i64 z.n) by rw [CE.out];rfl))) ?_
  simp only [Act.put,pq1,pq2,pq3]
  refine qQa (by rfl) (by go_simp;rfl) ?_
  simp only [Act.put,pq1,pq2,pq3]
  refine qQa (by rfl) (qQq 3 (.tmp 6) rfl _ Tryz.underlying3 rfl rfl (qQg G1.out 0 (show cy.toArray[0]?=some (.int .i64 y.n) by rw [YE.out];rfl))) ?_
  simp only [Act.put,pq1,pq2,pq3]
  refine qQa (by rfl) (by go_simp;rfl) ?_
  simp only [Act.put,pq1,pq2,pq3]
  refine qQa (by rfl) (by go_simp;rfl) ?_
  simp only [Act.put,pq1,pq2,pq3]
  rw[show(z.n==y.n)=false by simpa using hn]
  refine qQl (by rfl) (by go_simp;rfl) ?_
  simp only [Act.put,pq1,pq2,pq3]
  refine qQl (by rfl) (qQI 38 (.tmp 10) rfl M 1 rfl (B8 z.k) (by have:=qWM (z:=z) (qQ5 (by rw [←CE.out];exact R1.out));rwa [Nat.zero_add]at this) Tryz.underlying38 rfl KZ.out) ?_
  simp only [Act.put,pq1,pq2,pq3]
  refine qQl (by rfl) (by go_simp;rfl) ?_
  simp only [Act.put,pq1,pq2,pq3]
  refine qQl (by rfl) (qQI 38 (.tmp 12) rfl G 1 rfl (B8 y.k) (by have:=qWM (z:=y) (qQ5 (by rw [←YE.out];exact G1.out));rwa [Nat.zero_add]at this) Tryz.underlying38 rfl KY.out) ?_
  simp only [Act.put,pq1,pq2,pq3]
  refine qQl (by rfl) (run_eq_arr 38 _ (.tmp 11) (.tmp 13) rfl 5 32 Tryz.underlying38 Tryz.underlying5 rfl (by kernel_rfl) z.k y.k LZ.out LY.out rfl rfl _) ?_
  simp only [Act.put,pq1,pq2,pq3]
  go_wp2_with fail
  go_ret
  exact⟨by rw [hD];rfl,B1.out⟩
theorem some_owns (w:World) (A:Option Addr) (c:Nat) (zs:List Mem) (R:RdM w A zs) (hz:zs.length≤1000000) :
  Calls Tryz.prog 29 #[.slice A zs.length c,.func (.func 30) #[] #[]] w fun e w'=>e=.returned (.bool (zs.any (·.o)))∧Below w.heap.size w w':=by
 obtain⟨p,hp⟩:∃p:Mem→Bool,p=fun z=>z.o:=⟨_,rfl⟩
 rw[show(fun z:Mem=>z.o)=p from hp.symm]
 have CM:Hid (∀(z:Mem) (W:World),OkM z→Below w.heap.size w W→Calls Tryz.prog 30 #[.agg (RowM z).toArray] W (fun e W'=>e=.returned (.bool (p z))∧Below W.heap.size W W')):=Lh fun z W hz _=>by rw [hp];exact owns_any W z hz
 clear hp
 have HR:=Lh R
 obtain⟨q,hq⟩:∃q,q=zs.length:=⟨_,rfl⟩
 rw[←hq]
 have Q1:=Lh hq.symm
 have b0:(q:Int)≤1000000:=by omega
 clear R hq hz
 go_enter Tryz.func29,Tryz.ntmps29
 go_wp2_with fail
 go_loopw [9] (fun i wr=>∃j:Nat,j≤q∧i=.int .i64 (j:Int)∧(zs.take j).any p=false∧Below w.heap.size w wr) (fun i _=>q-(intOf i).toNat)
 case atStart=>exact⟨0,Nat.zero_le _,rfl,by simp,Below.refl _ _⟩
 case round=>
  obtain⟨j,hj,rfl,hno,hb⟩:=hrel
  have J:=Lh hj
  have NO:=Lh hno
  have BW:=Lh hb
  clear hj hno hb
  obtain⟨wp,rfl⟩:∃wp:World,wp=wr:=⟨_,rfl⟩
  by_cases hlt:j<q
  ·have hD:decide ((j:Int)<(q:Int))=true:=by simp;omega
   obtain⟨z,bz,oz,hz,hok,hA,hrz⟩:=HR.out.at (show j<zs.length by rw [Q1.out];exact hlt)
   obtain⟨cs,hcs⟩:∃cs,cs=RowM z:=⟨_,rfl⟩
   have ZE:=Lh hz
   have OK:=Lh hok
   have AE:=Lh hA
   have JQ:=Lh hlt
   have CE:=Lh hcs
   have RZ:=Lh (show wp.rangeAt bz (oz+j*34) cs by rw [hcs];exact qQ4 hrz BW.out)
   have CL:=Lh (show(Tryz.prog.info? 63).map (·.size)=some cs.length by rw [hcs,qQ7 hok];exact qZC)
   have SZ:=Lh (show(34:Nat)=cs.toArray.size by rw [List.size_toArray,hcs,qQ7 hok])
   have CL2:=Lh (show(Tryz.prog.info? 63).map (·.size)=some cs.toArray.size by rw [List.size_toArray];exact CL.out)
   have CO:=Lh (show cs.toArray.all (·.oneCell')=true by rw [hcs];exact qVK z)
   have TK:=Lh (show(zs.take (j+1)).any p=p z by rw [List.take_add_one,hz];simp only [List.any_append,NO.out,Option.toList_some,List.any_cons,List.any_nil,Bool.or_false,Bool.false_or])
   clear hz hok hA hrz hlt hcs
   go_upto_region 3 with fail
   refine wp_region_list ?_
   simp only [kQf]
   refine qQa (by rfl) (qQr 23 (.tmp 7) (.tmp 9) rfl 63 Tryz.underlying23 34 qZC bz oz q c j JQ.out .i64 _ rfl (by rw [←AE.out];rfl) rfl _) ?_
   simp only [Act.put,pq1,pq2,pq3]
   refine qQa (by rfl) (qQI 63 (.tmp 11) rfl bz (oz+j*34) rfl cs RZ.out Tryz.underlying63 rfl CL.out) ?_
   simp only [Act.put,pq1,pq2,pq3]
   go_upto_region 4 with (refine qQp rfl rfl 63 (.tmp 6) (.tmp 12) rfl cs.toArray rfl rfl CL2.out SZ.out CO.out ?_)
   generalize hM:Array.size (World.heap wp)=M
   generalize hw7:World.alloc wp _=w7
   have B7:=Lh (show Below wp.heap.size wp w7 by rw [←hw7];exact qQh _ _)
   have R7:=Lh (show w7.heap[M]?=some (.cells cs.toArray 63 (0,0)) by rw [←hw7];exact qQk _ _ _ hM.symm)
   have BW7:=Lh (BW.out.trans (B7.out.mono BW.out.size))
   clear hM hw7
   refine wp_region_list ?_
   simp only [kQf]
   refine qQa (by rfl) (by go_simp;rfl) ?_
   simp only [Act.put,pq1,pq2,pq3]
   refine qQa (by rfl) (qQI 63 (.tmp 6) rfl M 0 rfl cs (qQ5 R7.out) Tryz.underlying63 rfl CL.out) ?_
   simp only [Act.put,pq1,pq2,pq3]
   refine qQs (by rfl) (fun K hK=>?_)
   go_simp
   have CMZ:=CM.out z w7 OK.out BW7.out
   rw[←CE.out]at CMZ
   refine CMZ.mono ?_
   clear CMZ
   rintro e w8 ⟨rfl,hb⟩
   have B8:=Lh (BW7.out.trans (hb.mono BW7.out.size))
   clear hb
   obtain⟨pz,hpz⟩:∃pz:Bool,pz=p z:=⟨_,rfl⟩
   rw[←hpz]
   have PZ:=Lh hpz
   clear hpz
   refine hK.out _ _ ?_
   clear hK K
   rcases pz with _|_
   ·skip
    go_wp2_with fail
    go_roundw
    case rel=>exact⟨j+1,by have:=JQ.out;omega,by go_num,by rw [TK.out,←PZ.out],B8.out⟩
    case measure=>have:=JQ.out;simp [intOf];omega
   ·have ALL:=Lh (show zs.any p=true from List.any_eq_true.2 ⟨z,kQu ZE.out,PZ.out.symm⟩)
    go_wp2_with fail
    go_ret
    exact⟨by rw [ALL.out];rfl,B8.out⟩
  ·have hD:decide ((j:Int)<(q:Int))=false:=by simp;omega
   have ALL:=Lh (show zs.any p=false by have h1:=NO.out;rwa [kQn (by rw [Q1.out];omega)]at h1)
   go_wp2_with fail
   go_ret
   exact⟨by rw [ALL.out];rfl,BW.out⟩
def qJs (y x:Mem):Bool:=decide (x.n=y.n)||decide (x.k=y.k)
theorem some_same (w:World) (A:Option Addr) (c:Nat) (zs:List Mem) (R:RdM w A zs) (hz:zs.length≤1000000) (y:Mem) (hy:OkM y) (G:Nat) (T:TypeId) (fr:Nat×Nat) (hG:w.heap[G]?=some (.cells (RowM y).toArray T fr)) :
  Calls Tryz.prog 29 #[.slice A zs.length c,.func (.func 31) #[] #[.pointer (some ⟨G,0,none⟩)]] w fun e w'=>e=.returned (.bool (zs.any (qJs y)))∧Below w.heap.size w w':=by
 obtain⟨p,hp⟩:∃p:Mem→Bool,p=qJs y:=⟨_,rfl⟩
 rw[show qJs y=p from hp.symm]
 have CM:Hid (∀(z:Mem) (W:World),OkM z→Below w.heap.size w W→Calls Tryz.prog 31 #[.agg (RowM z).toArray,.pointer (some ⟨G,0,none⟩)] W (fun e W'=>e=.returned (.bool (p z))∧Below W.heap.size W W')):=Lh fun z W hz hb=>by
  rw[hp]
  exact checkc_any W z y hz hy G T fr (qQb hb (qQe hG) hG)
 clear hp hG hy
 have HR:=Lh R
 obtain⟨q,hq⟩:∃q,q=zs.length:=⟨_,rfl⟩
 rw[←hq]
 have Q1:=Lh hq.symm
 have b0:(q:Int)≤1000000:=by omega
 clear R hq hz
 go_enter Tryz.func29,Tryz.ntmps29
 go_wp2_with fail
 go_loopw [9] (fun i wr=>∃j:Nat,j≤q∧i=.int .i64 (j:Int)∧(zs.take j).any p=false∧Below w.heap.size w wr) (fun i _=>q-(intOf i).toNat)
 case atStart=>exact⟨0,Nat.zero_le _,rfl,by simp,Below.refl _ _⟩
 case round=>
  obtain⟨j,hj,rfl,hno,hb⟩:=hrel
  have J:=Lh hj
  have NO:=Lh hno
  have BW:=Lh hb
  clear hj hno hb
  obtain⟨wp,rfl⟩:∃wp:World,wp=wr:=⟨_,rfl⟩
  by_cases hlt:j<q
  ·have hD:decide ((j:Int)<(q:Int))=true:=by simp;omega
   obtain⟨z,bz,oz,hz,hok,hA,hrz⟩:=HR.out.at (show j<zs.length by rw [Q1.out];exact hlt)
   obtain⟨cs,hcs⟩:∃cs,cs=RowM z:=⟨_,rfl⟩
   have ZE:=Lh hz
   have OK:=Lh hok
   have AE:=Lh hA
   have JQ:=Lh hlt
   have CE:=Lh hcs
   have RZ:=Lh (show wp.rangeAt bz (oz+j*34) cs by rw [hcs];exact qQ4 hrz BW.out)
   have CL:=Lh (show(Tryz.prog.info? 63).map (·.size)=some cs.length by rw [hcs,qQ7 hok];exact qZC)
   have SZ:=Lh (show(34:Nat)=cs.toArray.size by rw [List.size_toArray,hcs,qQ7 hok])
   have CL2:=Lh (show(Tryz.prog.info? 63).map (·.size)=some cs.toArray.size by rw [List.size_toArray];exact CL.out)
   have CO:=Lh (show cs.toArray.all (·.oneCell')=true by rw [hcs];exact qVK z)
   have TK:=Lh (show(zs.take (j+1)).any p=p z by rw [List.take_add_one,hz];simp only [List.any_append,NO.out,Option.toList_some,List.any_cons,List.any_nil,Bool.or_false,Bool.false_or])
   clear hz hok hA hrz hlt hcs
   go_upto_region 3 with fail
   refine wp_region_list ?_
   simp only [kQf]
   refine qQa (by rfl) (qQr 23 (.tmp 7) (.tmp 9) rfl 63 Tryz.underlying23 34 qZC bz oz q c j JQ.out .i64 _ rfl (by rw [←AE.out];rfl) rfl _) ?_
   simp only [Act.put,pq1,pq2,pq3]
   refine qQa (by rfl) (qQI 63 (.tmp 11) rfl bz (oz+j*34) rfl cs RZ.out Tryz.underlying63 rfl CL.out) ?_
   simp only [Act.put,pq1,pq2,pq3]
   go_upto_region 4 with (refine qQp rfl rfl 63 (.tmp 6) (.tmp 12) rfl cs.toArray rfl rfl CL2.out SZ.out CO.out ?_)
   generalize hM:Array.size (World.heap wp)=M
   generalize hw7:World.alloc wp _=w7
   have B7:=Lh (show Below wp.heap.size wp w7 by rw [←hw7];exact qQh _ _)
   have R7:=Lh (show w7.heap[M]?=some (.cells cs.toArray 63 (0,0)) by rw [←hw7];exact qQk _ _ _ hM.symm)
   have BW7:=Lh (BW.out.trans (B7.out.mono BW.out.size))
   clear hM hw7
   refine wp_region_list ?_
   simp only [kQf]
   refine qQa (by rfl) (by go_simp;rfl) ?_
   simp only [Act.put,pq1,pq2,pq3]
   refine qQa (by rfl) (qQI 63 (.tmp 6) rfl M 0 rfl cs (qQ5 R7.out) Tryz.underlying63 rfl CL.out) ?_
   simp only [Act.put,pq1,pq2,pq3]
   refine qQs (by rfl) (fun K hK=>?_)
   go_simp
   have CMZ:=CM.out z w7 OK.out BW7.out
   rw[←CE.out]at CMZ
   refine CMZ.mono ?_
   clear CMZ
   rintro e w8 ⟨rfl,hb⟩
   have B8:=Lh (BW7.out.trans (hb.mono BW7.out.size))
   clear hb
   obtain⟨pz,hpz⟩:∃pz:Bool,pz=p z:=⟨_,rfl⟩
   rw[←hpz]
   have PZ:=Lh hpz
   clear hpz
   refine hK.out _ _ ?_
   clear hK K
   rcases pz with _|_
   ·skip
    go_wp2_with fail
    go_roundw
    case rel=>exact⟨j+1,by have:=JQ.out;omega,by go_num,by rw [TK.out,←PZ.out],B8.out⟩
    case measure=>have:=JQ.out;simp [intOf];omega
   ·have ALL:=Lh (show zs.any p=true from List.any_eq_true.2 ⟨z,kQu ZE.out,PZ.out.symm⟩)
    go_wp2_with fail
    go_ret
    exact⟨by rw [ALL.out];rfl,B8.out⟩
  ·have hD:decide ((j:Int)<(q:Int))=false:=by simp;omega
   have ALL:=Lh (show zs.any p=false by have h1:=NO.out;rwa [kQn (by rw [Q1.out];omega)]at h1)
   go_wp2_with fail
   go_ret
   exact⟨by rw [ALL.out];rfl,BW.out⟩
theorem cut_toK {P:Program} (t e:TypeId) {i:TypeInfo} (ht:P.underlying t=some (.slice e)) (hi:P.info? e=some i) (A:Option Addr) (n c m:Nat) (hm:m≤c) (W:World) :
  (Instr.slice t (.slice A n c) none (some (.int .i64 (m:Int))) none).run P W=.ok (.slice A m c) W:=by
 have hel:P.elem t=e:=by simp [Program.elem,ht]
 have hu:P.underlying t=some (.slice (P.elem t)):=by rw [hel];exact ht
 rw[run_slice_h W t A n c hu .i64 (m:Int) (Int.natCast_nonneg _) (by omega),hel]
 simp only [sizeOf,typeInfo,hi,sliced,Result.andThen]
 rcases A with _|⟨b,o,sp⟩
 ·simp [Sem.run_pure,hi,Result.andThen]
 ·simp [Sem.run_pure,hi,Result.andThen,Addr.add]
  try (cases sp<;>simp)
theorem run_cut_toK {P:Program} {o:Oper} {a:Act} (ty:TypeId) (x h:Operand) (ho:o.op=.slice ty x none (some h) none) (e:TypeId) {i:TypeInfo} (ht:P.underlying ty=some (.slice e)) (hi:P.info? e=some i)
  (A:Option Addr) (n c m:Nat) (hx:a.eval x=.slice A n c) (hh:a.eval h=.int .i64 (m:Int)) (hm:m≤c) (W:World):(execOp a.eval o).run P W=.ok (.value (.slice A m c)) W:=by
 unfold execOp
 simp only [ho,hx,kQo,Option.map_none,hh,Instr.sliceAt,Sem.run_bind,Sem.run_pure,run_underlying ht,Result.andThen_ok,cut_toK ty e ht hi A n c m hm W,Result.andThen_ok]
def okAt (l:List Mem) (i:Nat) (m:Mem):Bool:=decide (1≤m.n)&&decide (m.n≤255)&&!((l.take i).any (qJs m))
def qWs (l:List Mem) (i:Nat):Bool:=(List.range l.length).all fun j=>decide (j<i)||match l[j]? with|some m=>okAt l j m|none=>true
def qZd (l:List Mem):Bool:=decide (l.length≤8)&&l.any (·.o)&&qWs l 0
theorem qKY {l:List Mem} {i:Nat} {m:Mem} (h:l[i]?=some m):qWs l i=(okAt l i m&&qWs l (i+1)):=by
 have hi:i<l.length:=(List.getElem?_eq_some_iff.1 h).1
 apply Bool.eq_iff_iff.2
 simp only [qWs,Bool.and_eq_true,List.all_eq_true,List.mem_range,Bool.or_eq_true,decide_eq_true_eq]
 constructor
 ·intro hh
  refine⟨?_,fun j hj=>?_⟩
  ·have:=hh i hi
   rw[h]at this
   simpa using this
  ·rcases hh j hj with h1|h1
   ·exact .inl (by omega)
   ·exact .inr h1
 ·rintro⟨h1,hh⟩ j hj
  rcases hh j hj with h2|h2
  ·by_cases e:j=i
   ·subst e
    rw[h]
    exact .inr h1
   ·exact .inl (by omega)
  ·exact .inr h2
theorem qYG (l:List Mem):qWs l l.length=true:=by
 simp only [qWs,List.all_eq_true,List.mem_range,Bool.or_eq_true,decide_eq_true_eq]
 exact fun j hj=>.inl hj
def chk (l:List Mem):Int:=if qZd l then 0 else 2
theorem qVz (w:World) (A:Option Addr) (c:Nat) (zs:List Mem) (R:RdM w A zs) (hc:zs.length≤c) (hz:zs.length≤1000) :
  Calls Tryz.prog 10 #[.slice A zs.length c] w fun e w'=>e=.returned (.int .i64 (chk zs))∧Below w.heap.size w w':=by
 have HR:=Lh R
 have SO:=Lh (some_owns w A c zs R (by omega))
 obtain⟨q,hq⟩:∃q,q=zs.length:=⟨_,rfl⟩
 rw[←hq]at SO ⊢
 have Q1:=Lh hq.symm
 have QC:=Lh (show q≤c by omega)
 have b0:(q:Int)≤1000:=by omega
 clear R hq hz hc
 go_enter Tryz.func10,Tryz.ntmps10
 by_cases h8:8<q
 ·have hD:decide ((q:Int)>8)=true:=by simp;omega
  have CE:=Lh (show qZd zs=false by simp only [qZd,Bool.and_eq_false_imp];intro h;simp at h;rw [Q1.out]at h;omega)
  go_wp2_with fail
  go_ret
  exact⟨by rw [chk,CE.out];rfl,Below.refl _ _⟩
 ·have hD:decide ((q:Int)>8)=false:=by simp;omega
  have Q8:=Lh (Nat.le_of_not_lt h8)
  clear h8
  go_wp2_with fail
  refine SO.out.mono ?_
  obtain⟨ow,how⟩:∃ow:Bool,ow=zs.any (·.o):=⟨_,rfl⟩
  rw[←how]
  have OW:=Lh how
  clear how
  rintro e w1 ⟨rfl,hb⟩
  have B1:=Lh hb
  clear hb SO
  rcases ow with _|_
  ·have CE:=Lh (show qZd zs=false by simp only [qZd,←OW.out];simp)
   go_wp2_with fail
   go_ret
   exact⟨by rw [chk,CE.out];rfl,B1.out⟩
  ·have CE:=Lh (show qZd zs=qWs zs 0 by simp only [qZd,←OW.out,Bool.and_true];rw [decide_eq_true (by rw [Q1.out];exact Q8.out)];rfl)
   go_wp2_with fail
   go_loopw [15] (fun i wr=>∃j:Nat,j≤q∧i=.int .i64 (j:Int)∧qZd zs=qWs zs j∧Below w.heap.size w wr) (fun i _=>q-(intOf i).toNat)
   case atStart=>exact⟨0,Nat.zero_le _,rfl,CE.out,B1.out⟩
   case round=>
    obtain⟨j,hj,rfl,hno,hb⟩:=hrel
    have J:=Lh hj
    have NO:=Lh hno
    have BW:=Lh hb
    clear hj hno hb CE
    obtain⟨wp,rfl⟩:∃wp:World,wp=wr:=⟨_,rfl⟩
    by_cases hlt:j<q
    ·have hD:decide ((j:Int)<(q:Int))=true:=by simp;omega
     obtain⟨z,bz,oz,hz,hok,hA,hrz⟩:=HR.out.at (show j<zs.length by rw [Q1.out];exact hlt)
     obtain⟨cs,hcs⟩:∃cs,cs=RowM z:=⟨_,rfl⟩
     have ZE:=Lh hz
     have OK:=Lh hok
     have AE:=Lh hA
     have JQ:=Lh hlt
     have CE:=Lh hcs
     have RZ:=Lh (show wp.rangeAt bz (oz+j*34) cs by rw [hcs];exact qQ4 hrz BW.out)
     have CL:=Lh (show(Tryz.prog.info? 63).map (·.size)=some cs.length by rw [hcs,qQ7 hok];exact qZC)
     have SZ:=Lh (show(34:Nat)=cs.toArray.size by rw [List.size_toArray,hcs,qQ7 hok])
     have CL2:=Lh (show(Tryz.prog.info? 63).map (·.size)=some cs.toArray.size by rw [List.size_toArray];exact CL.out)
     have CO:=Lh (show cs.toArray.all (·.oneCell')=true by rw [hcs];exact qVK z)
     have ST:=Lh (qKY hz)
     clear hz hok hA hrz hlt hcs
     go_upto_region 5 with fail
     refine wp_region_list ?_
     simp only [kQf]
     refine qQa (by rfl) (by go_simp;rfl) ?_
     simp only [Act.put,pq1,pq2,pq3]
     refine qQa (by rfl) (qQr 23 (.tmp 13) (.tmp 15) rfl 63 Tryz.underlying23 34 qZC bz oz q c j JQ.out .i64 _ rfl (by rw [←AE.out];rfl) rfl _) ?_
     simp only [Act.put,pq1,pq2,pq3]
     refine qQa (by rfl) (qQI 63 (.tmp 18) rfl bz (oz+j*34) rfl cs RZ.out Tryz.underlying63 rfl CL.out) ?_
     simp only [Act.put,pq1,pq2,pq3]
     go_upto_region 6 with (refine qQp rfl rfl 63 (.tmp 4) (.tmp 19) rfl cs.toArray rfl rfl CL2.out SZ.out CO.out ?_)
     generalize hM:Array.size (World.heap wp)=M
     generalize hw7:World.alloc wp _=w7
     have B7:=Lh (show Below wp.heap.size wp w7 by rw [←hw7];exact qQh _ _)
     have R7:=Lh (show w7.heap[M]?=some (.cells cs.toArray 63 (0,0)) by rw [←hw7];exact qQk _ _ _ hM.symm)
     have BW7:=Lh (BW.out.trans (B7.out.mono BW.out.size))
     clear hM hw7
     have CN:=Lh (qQg R7.out 0 (show cs.toArray[0]?=some (.int .i64 z.n) by rw [CE.out];rfl))
     refine wp_region_list ?_
     simp only [kQf]
     refine qQa (by rfl) (by go_simp;rfl) ?_
     simp only [Act.put,pq1,pq2,pq3]
     refine qQa (by rfl) (qQq 3 (.tmp 20) rfl _ Tryz.underlying3 rfl rfl CN.out) ?_
     simp only [Act.put,pq1,pq2,pq3]
     by_cases h1:z.n<1
     ·have hD1:decide (z.n<1)=true:=by simpa using h1
      have CF:=Lh (show qZd zs=false by rw [NO.out,ST.out,okAt,decide_eq_false (by omega)];rfl)
      go_wp2_with fail
      go_ret
      exact⟨by rw [chk,CF.out];rfl,BW7.out⟩
     ·have hD1:decide (z.n<1)=false:=by simpa using h1
      refine qQa (by rfl) (by go_simp;rfl) ?_
      simp only [Act.put,pq1,pq2,pq3]
      refine qQa (by rfl) (by go_simp;rfl) ?_
      simp only [Act.put,pq1,pq2,pq3]
      refine qQl (by rfl) (by go_simp;rfl) ?_
      simp only [Act.put,pq1,pq2,pq3]
      refine qQl (by rfl) (qQq 3 (.tmp 24) rfl _ Tryz.underlying3 rfl rfl CN.out) ?_
      simp only [Act.put,pq1,pq2,pq3]
      by_cases h2:z.n>255
      ·have hD2:decide (z.n>255)=true:=by simpa using h2
       have CF:=Lh (show qZd zs=false by rw [NO.out,ST.out,okAt,decide_eq_false (p:=z.n≤255) (by omega)];simp)
       go_wp2_with fail
       go_ret
       exact⟨by rw [chk,CF.out];rfl,BW7.out⟩
      ·have hD2:decide (z.n>255)=false:=by simpa using h2
       refine qQl (by rfl) (by go_simp;rfl) ?_
       simp only [Act.put,pq1,pq2,pq3]
       refine qQl (by rfl) (by go_simp;rfl) ?_
       simp only [Act.put,pq1,pq2,pq3]
       refine qQl (by rfl) (by go_simp;rfl) ?_
       simp only [Act.put,pq1,pq2,pq3]
       refine qQl (by rfl) (by go_simp;rfl) ?_
       simp only [Act.put,pq1,pq2,pq3]
       refine qQl (by rfl) (by go_simp;rfl) ?_
       simp only [Act.put,pq1,pq2,pq3]
       refine qQl (by rfl) (run_cut_toK 23 (.tmp 29) (.tmp 30) rfl 63 Tryz.underlying23 rfl A q c j rfl rfl (by have:=JQ.out;have:=QC.out;omega) _) ?_
       simp only [Act.put,pq1,pq2,pq3]
       refine qQl (by rfl) (by go_simp;rfl) ?_
       simp only [Act.put,pq1,pq2,pq3]
       have TL:(zs.take j).length=j:=by rw [kQp,Q1.out];have:=JQ.out;omega
       have SS:=Lh (some_same w7 A c (zs.take j) ((HR.out.keep BW7.out).take j) (by rw [TL];have:=JQ.out;omega) z OK.out M 63 (0,0) (by rw [←CE.out];exact R7.out))
       rw[TL]at SS
       clear TL
       obtain⟨sx,hsx⟩:∃sx:Bool,sx=(zs.take j).any (qJs z):=⟨_,rfl⟩
       rw[←hsx]at SS
       have SX:=Lh hsx
       have OA:=Lh (show okAt zs j z=!sx by rw [okAt,←hsx,decide_eq_true (by omega),decide_eq_true (by omega)];rfl)
       clear hsx
       go_wp2_with fail
       refine SS.out.mono ?_
       clear SS
       rintro e w8 ⟨rfl,hb⟩
       have B8:=Lh (BW7.out.trans (hb.mono BW7.out.size))
       clear hb
       rcases sx with _|_
       ·have NX:=Lh (show qZd zs=qWs zs (j+1) by rw [NO.out,ST.out,OA.out];rfl)
        go_wp2_with fail
        go_roundw
        case rel=>exact⟨j+1,by have:=JQ.out;omega,by go_num,NX.out,B8.out⟩
        case measure=>have:=JQ.out;simp [intOf];omega
       ·have CF:=Lh (show qZd zs=false by rw [NO.out,ST.out,OA.out];rfl)
        go_wp2_with fail
        go_ret
        exact⟨by rw [chk,CF.out];rfl,B8.out⟩
    ·have hD:decide ((j:Int)<(q:Int))=false:=by simp;omega
     have CF:=Lh (show qZd zs=true by rw [NO.out,show j=zs.length by have:=J.out;rw [Q1.out];omega];exact qYG zs)
     go_wp2_with fail
     go_ret
     exact⟨by rw [chk,CF.out];rfl,BW.out⟩
structure Kys where
 e:UInt64
 k:List UInt8
 o:List UInt8
 w:Bool
def RowK (y:Kys):List Value:=.int .u64 (y.e.toNat:Int)::(B8 y.k++(B8 y.o++[.bool y.w]))
def OkK (y:Kys):Prop:=y.k.length=32∧y.o.length=32
def z32:List UInt8:=kQc 32 0
def qXh (y:Kys) (o:Bool):List UInt8:=beL 8 y.e.toNat++y.k++[if o then 1 else 0]++(if o then y.o else z32)
theorem qXP {y:Kys} (h:OkK y):(RowK y).length=66:=by simp [RowK,qQt,h.1,h.2]
theorem qKv:(Tryz.prog.info? 40).map (·.size)=some 66:=by kernel_rfl
theorem qZO (y:Kys):(RowK y).toArray.all (·.oneCell')=true:=all_oneCell_toArray (by
 intro v hv
 simp only [RowK,B8,List.mem_cons,List.mem_append,List.mem_map,List.mem_nil_iff,or_false]at hv
 rcases hv with rfl|⟨x,_,rfl⟩|⟨x,_,rfl⟩|rfl<;>rfl)
theorem rowK_w {y:Kys} (h:OkK y):(RowK y).toArray[65]?=some (.bool y.w):=by
 rw[kQd,RowK,kQe,kQq (by rw [qQt,h.1];omega),qQt,h.1,kQq (by rw [qQt,h.2];omega),qQt,h.2]
 rfl
theorem rowK_setO {y:Kys} (h:OkK y) (o:List UInt8) (w:World):(RowK y).toArray.toList.take 33++(B8 o++(RowK y).toArray.toList.drop 65)=RowK { y with o:=o }:=by
 have h1:RowK y=(.int .u64 (y.e.toNat:Int)::B8 y.k)++(B8 y.o++[.bool y.w]):=rfl
 have l1:(Value.int .u64 (y.e.toNat:Int)::B8 y.k).length=33:=by simp [qQt,h.1]
 have l2:((Value.int .u64 (y.e.toNat:Int)::B8 y.k)++B8 y.o).length=65:=by simp [qQt,h.1,h.2]
 show(RowK y).take 33++(B8 o++(RowK y).drop 65)=_
 have l3:((Value.int .u64 (y.e.toNat:Int)::B8 y.k)++(B8 y.o++[Value.bool y.w])).drop 65=[Value.bool y.w]:=by rw [←List.append_assoc,List.drop_left' l2]
 rw[h1,List.take_left' l1,l3]
 rfl
theorem rowK_setK {y:Kys} (h:OkK y) (k:List UInt8) (w:World):(RowK y).toArray.toList.take 1++(B8 k++(RowK y).toArray.toList.drop 33)=RowK { y with k:=k }:=by
 have h1:RowK y=(.int .u64 (y.e.toNat:Int)::B8 y.k)++(B8 y.o++[.bool y.w]):=rfl
 have l1:(Value.int .u64 (y.e.toNat:Int)::B8 y.k).length=33:=by simp [qQt,h.1]
 show(RowK y).take 1++(B8 k++(RowK y).drop 33)=_
 rw[h1,List.drop_left' l1]
 rfl
theorem rangeK_k {W:World} {b o:Nat} {y:Kys} (h:W.rangeAt b o (RowK y)):W.rangeAt b (o+1) (B8 y.k):=
 qJ3 (qKQ h 1 (x:=[.int .u64 (y.e.toNat:Int)]) (y:=B8 y.k++(B8 y.o++[.bool y.w])) rfl rfl) rfl
theorem qVN {W:World} {b o:Nat} {y:Kys} (h:W.rangeAt b o (RowK y)) (hk:y.k.length=32):W.rangeAt b (o+33) (B8 y.o):=
 qJ3 (qKQ h 33 (x:=.int .u64 (y.e.toNat:Int)::B8 y.k) (y:=B8 y.o++[.bool y.w]) rfl (by simp [qQt,hk])) rfl
theorem RdB.range {W:World} {g off:Nat} {l:List UInt8} (h:W.rangeAt g off (B8 l)):RdB W (some ⟨g,off,none⟩) l:=by
 intro j hj
 refine⟨g,off,rfl,h j _ ?_⟩
 rw[B8,List.getElem?_map,kQi hj,kQa,kQi hj]
 rfl
theorem qZA {P:Program} {o:Oper} {a:Act} (ty:TypeId) (x:Operand) (ho:o.op=.slice ty x none none none) (n e:Nat) (ht:P.underlying ty=some (.array n e)) {i:TypeInfo} (hi:P.info? e=some i)
  (g off:Nat) (hx:a.eval x=.pointer (some ⟨g,off,none⟩)) (W:World):(execOp a.eval o).run P W=.ok (.value (.slice (some ⟨g,off,none⟩) n n)) W:=by
 unfold execOp
 simp only [ho,hx,Option.map_none,Instr.sliceAt,Sem.run_bind,Sem.run_pure,run_underlying ht,Result.andThen_ok,Instr.sureAddr,Instr.sliceBounds,sizeOf,typeInfo,Addr.add]
 simp [hi]
theorem qWo {y:Kys} (h:OkK y) (o:Bool):(qXh y o).length=73:=by
 cases o<;>simp [qXh,z32,qZj,h.1,h.2]
theorem qQo {w W W':World} {q:Nat} (h:Below w.heap.size w W) (hg:W.grownBy W' (some q)) (hq:w.heap.size≤q):Below w.heap.size w W':=h.trans (qQi hg h.size (fun k e=>by cases e;exact hq))
theorem text_any (w:World) (y:Kys) (hy:OkK y) (o:Bool):Calls Tryz.prog 52 #[.agg (RowK y).toArray,.bool o] w fun e w'=>∃v,e=.returned v∧OwnB w' w.heap.size v (qXh y o)∧Below w.heap.size w w':=by
 have TB:=Lh (show qXA Tryz.prog from⟨Tryz.underlying22,by kernel_rfl⟩)
 obtain⟨cs,hcs⟩:∃cs,cs=RowK y:=⟨_,rfl⟩
 rw[←hcs]
 have CE:=Lh hcs
 have HY:=Lh hy
 have CL:=Lh (show(Tryz.prog.info? 40).map (·.size)=some cs.toArray.size by rw [hcs];simp only [List.size_toArray,qXP hy];exact qKv)
 clear hcs hy
 go_enter Tryz.func52,Tryz.ntmps52
 go_upto_region 1 with fail
 generalize hM:Array.size (World.heap w)=M
 generalize hw1:World.alloc w _=w1
 have B1:=Lh (show Below w.heap.size w w1 by rw [←hw1];exact qQh _ _)
 have R1:=Lh (show w1.heap[M]?=some (.cells cs.toArray 40 (0,0)) by rw [←hw1];exact qQk _ _ _ hM.symm)
 have RG:=Lh (show w1.rangeAt M 0 (RowK y) by rw [←CE.out];exact qQ5 R1.out)
 have RK:=Lh (show RdB w1 (some ⟨M,1,none⟩) y.k by have:=RdB.range (rangeK_k RG.out);rwa [Nat.zero_add]at this)
 have Z:=Lh (show Below w1.heap.size w1 w1.drew from(Below.refl _ _).drew)
 have CM:=Lh hM
 clear hM hw1
 refine qQu (fun W=>Below w1.heap.size w1 W) [(true,0),(true,1),(true,3),(true,4),(false,2),(false,5),(true,6)] (by kernel_rfl) (by kernel_rfl) (fun _ _ d _ _ h=>by cases d<;>exact h) ?_
 simp only [kQl,kQm,kQd,kQg,kQe,kQo]
 refine qQc (by rfl) Z.out (fun W hW=>by go_simp;rfl) ?_
 simp only [Act.put,pq1,pq2,pq3]
 refine qQc (by rfl) Z.out (fun W hW=>qQq 36 (.tmp 6) rfl _ Tryz.underlying36 rfl rfl (qQg (qQb hW (qQe R1.out) R1.out) 0 (show cs.toArray[0]?=some (.int .u64 (y.e.toNat:Int)) by rw [CE.out];rfl))) ?_
 simp only [Act.put,pq1,pq2,pq3]
 refine qQc (by rfl) Z.out (fun W hW=>by go_simp;rfl) ?_
 simp only [Act.put,pq1,pq2,pq3]
 refine qQc (by rfl) Z.out (fun W hW=>qZA 38 (.tmp 9) rfl 32 5 Tryz.underlying38 rfl M 1 rfl W) ?_
 simp only [Act.put,pq1,pq2,pq3]
 refine qQE (by rfl) (fun K hK=>?_)
 go_simp
 refine(put_any w1.drew none 0 0 [] y.e 8 (by omega) rfl (RdB.nil _ _) (by omega)).mono ?_
 rintro e w2 ⟨v2,rfl,ho,hb⟩
 have O:=Lh (show OwnB w2 w1.heap.size v2 (beL 8 y.e.toNat)from ho)
 have Z:=Lh (show Below w1.heap.size w1 w2 from Z.out.trans (hb.mono Z.out.size))
 clear ho hb
 refine hK.out _ _ Z.out ?_
 clear hK K
 refine qQE (by rfl) (fun K hK=>?_)
 refine qV2 TB.out (.tmp 8) (.tmp 10) rfl w1.heap.size v2 (beL 8 y.e.toNat) y.k (some ⟨M,1,none⟩) 32 32 rfl rfl HY.out.1 O.out (RK.out.keep Z.out) Z.out.size (by rw [qZj];omega) ?_
 intro v3 w3 ho hg _
 have Z:=Lh (qXI Z.out O.out hg)
 have O:=Lh ho
 clear ho hg
 refine hK.out _ _ Z.out ?_
 clear hK K
 refine qQc (by rfl) Z.out (fun W hW=>by go_simp;rfl) ?_
 simp only [Act.put,pq1,pq2,pq3]
 refine qQG ?_
 go_upto_region 2 with fail
 refine wp_region_list ?_
 simp only [kQf]
 refine qQa (by rfl) (by go_simp;rfl) ?_
 simp only [Act.put,pq1,pq2,pq3]
 refine qQa (by rfl) (by go_simp;rfl) ?_
 simp only [Act.put,pq1,pq2,pq3]
 refine qQs (by rfl) (fun K hK=>?_)
 go_simp
 refine(flag_any w3 o).mono ?_
 obtain⟨fl,hfl⟩:∃fl:UInt8,fl=if o then 1 else 0:=⟨_,rfl⟩
 rw[←hfl]
 have FL:=Lh hfl
 clear hfl
 rintro e wd ⟨rfl,hw⟩
 rw[hw]
 clear hw wd
 refine hK.out _ _ ?_
 clear hK K
 refine qQs (by rfl) (fun K hK=>?_)
 go_simp
 generalize hB:Array.size (World.heap _)=N9
 generalize hw:World.alloc _ _=wn
 obtain⟨hr,hs,hb⟩:=built_one (x:=fl) hw hB Z.out
 have R9:=Lh hr
 have Z:=Lh hs
 have O:=Lh (O.out.below hb)
 clear hB hw hb hr hs
 refine hK.out _ _ ?_
 clear hK K
 refine qQs (by rfl) (fun K hK=>?_)
 refine qV2 TB.out (.tmp 12) (.tmp 15) rfl w1.heap.size v3 _ [fl] (some ⟨N9,0,none⟩) 1 1 rfl rfl rfl O.out R9.out Z.out.size (by simp [qZj,HY.out.1]) ?_
 intro v4 w4 ho hg _
 have Z:=Lh (qXI Z.out O.out hg)
 have O:=Lh ho
 clear ho hg R9
 refine hK.out _ _ ?_
 clear hK K
 simp only [Act.put,pq1,pq2,pq3]
 have R4:=Lh (qQb Z.out (qQe R1.out) R1.out)
 rcases o with _|_
 ·have FE:=Lh (show fl=0 from FL.out)
  have SZ:=Lh (show cs.toArray.size=66 by rw [CE.out,List.size_toArray,qXP HY.out])
  go_upto_region 4 with fail
  refine wp_region_list ?_
  simp only [kQf]
  refine qQa (by rfl) (by go_simp;rfl) ?_
  simp only [Act.put,pq1,pq2,pq3]
  refine qQa (by rfl) (by go_simp;rfl) ?_
  simp only [Act.put,pq1,pq2,pq3]
  refine qXr rfl 38 (.tmp 20) (.tmp 19) rfl M 33 (W8 z32) rfl (by rw [show W8 z32=_ from qJn];rfl) cs.toArray 40 R4.out (by kernel_rfl) (by rw [SZ.out,qQw];decide) (qZg _) ?_
  intro w5 hr hg hs
  have R5:=Lh (show w5.heap[M]?=some (.cells (RowK { y with o:=z32 }).toArray 40 (0,0)) by
   rw[hr,CE.out,qQw,show(33+z32.length)=65 from rfl,W8_B8]
   congr 3
   exact rowK_setO HY.out z32 w)
  have ML:=Lh (qQe R1.out)
  have MG:=Lh (show w.heap.size≤M by have:=CM.out;omega)
  have O:=Lh (show OwnB w5 w.heap.size v4 _ from(O.out.grown hg (by
   rcases hq:v4.ownBlock with _|g
   ·exact .inl rfl
   ·exact .inr fun e=>by have h1:=(O.out.lt g hq).1;have:=Option.some.inj e;have:=ML.out;omega)).mono B1.out.size)
  have Z:=Lh (show Below w.heap.size w w5 from qQo (B1.out.trans (Z.out.mono B1.out.size)) hg MG.out)
  have RO:=Lh (show RdB w5 (some ⟨M,33,none⟩) z32 by have:=RdB.range (qVN (o:=0) (W:=w5) (y:={ y with o:=z32 }) (qQ5 R5.out) HY.out.1);rwa [Nat.zero_add]at this)
  clear hr hg hs
  go_upto_region 5 with fail
  refine wp_region_list ?_
  simp only [kQf]
  refine qQa (by rfl) (by go_simp;rfl) ?_
  simp only [Act.put,pq1,pq2,pq3]
  refine qQa (by rfl) (by go_simp;rfl) ?_
  simp only [Act.put,pq1,pq2,pq3]
  refine qQa (by rfl) (qZA 38 (.tmp 22) rfl 32 5 Tryz.underlying38 rfl M 33 rfl _) ?_
  simp only [Act.put,pq1,pq2,pq3]
  refine qQs (by rfl) (fun K hK=>?_)
  refine qV2 TB.out (.tmp 21) (.tmp 23) rfl w.heap.size v4 _ z32 (some ⟨M,33,none⟩) 32 32 rfl rfl rfl O.out RO.out Z.out.size (by simp [qZj,HY.out.1]) ?_
  intro v5 w6 ho hg _
  have Z:=Lh (qXI Z.out O.out hg)
  have O:=Lh ho
  clear ho hg
  refine hK.out _ _ ?_
  clear hK K
  simp only [Act.put,pq1,pq2,pq3]
  go_wp2_with fail
  go_ret
  exact⟨_,rfl,by have:=O.out;rw [FE.out]at this;exact this,Z.out⟩
 ·have FE:=Lh (show fl=1 from FL.out)
  have RO:=Lh (show RdB w4 (some ⟨M,33,none⟩) y.o by have:=RdB.range (qVN (o:=0) (W:=w4) (by rw [←CE.out];exact qQ5 R4.out) HY.out.1);rwa [Nat.zero_add]at this)
  go_upto_region 5 with fail
  refine wp_region_list ?_
  simp only [kQf]
  refine qQa (by rfl) (by go_simp;rfl) ?_
  simp only [Act.put,pq1,pq2,pq3]
  refine qQa (by rfl) (by go_simp;rfl) ?_
  simp only [Act.put,pq1,pq2,pq3]
  refine qQa (by rfl) (qZA 38 (.tmp 22) rfl 32 5 Tryz.underlying38 rfl M 33 rfl _) ?_
  simp only [Act.put,pq1,pq2,pq3]
  refine qQs (by rfl) (fun K hK=>?_)
  refine qV2 TB.out (.tmp 21) (.tmp 23) rfl w1.heap.size v4 _ y.o (some ⟨M,33,none⟩) 32 32 rfl rfl HY.out.2 O.out RO.out Z.out.size (by simp [qZj,HY.out.1]) ?_
  intro v5 w5 ho hg _
  have Z:=Lh (qXI Z.out O.out hg)
  have O:=Lh ho
  clear ho hg
  refine hK.out _ _ ?_
  clear hK K
  simp only [Act.put,pq1,pq2,pq3]
  go_wp2_with fail
  go_ret
  exact⟨_,rfl,by have:=O.out.mono B1.out.size;rw [FE.out]at this;exact this,B1.out.trans (Z.out.mono B1.out.size)⟩
end Go.Proofs.YtlocplkjokoknaaGreat
namespace Go.Proofs.YtlocplkjokoknaaGreat
open Go.RowKit
theorem qJT (k:Nat):Builtin.zeroCells (Value.int .u8 0).cells k=(B8 (kQc k 0)).toArray:=by
 apply Array.ext
 ·rw [size_zeroCells]
  simp [qQt,Value.cells]
 ·intro i h1 h2
  simp [Builtin.zeroCells,Value.cells,B8,Nat.mod_one]
theorem qY9 {P:Program} (T:qXA P) (hint:P.underlying 3=some (.int .i64)) (ty:TypeId) (W:World) (base:Nat) (v:Value) (l:List UInt8) (k:Nat) (HO:OwnB W base v l) (hbase:base≤W.heap.size) (hl:l.length+k≤140737488355328) :
  ∃v1 w1,(Builtin.append_ #[22,3] ty #[v,.int .i64 (k:Int)]).run P W=.ok v1 w1∧OwnB w1 base v1 (l++kQc k 0)∧W.grownBy w1 v.ownBlock∧(v1.ownBlock=v.ownBlock∨v1.ownBlock=some W.heap.size):=by
 obtain⟨i0,hi,hzz⟩:=Option.map_eq_some_iff.1 T.hinfo
 simp only [Prod.mk.injEq]at hzz
 obtain⟨hz0,hz1,hz2⟩:=hzz
 have ht:=T.ht
 have hw:IntKind.i64.wrap (k:Int)=k:=by rw [IntKind.wrap_i64];omega
 have hneg:¬((k:Int)<0):=by omega
 have h48i:¬(281474976710656<(k:Int)*(i0.bytes:Int)):=by rw [hz2];omega
 have hlen:(B8 (l++kQc k 0)).length=(l.length+k)*1:=by rw [qQt,kQj,List.length_replicate,Nat.mul_one]
 have grows:∀(A:Option Addr) (cap:Nat),v=.slice A l.length cap→cap<l.length+k→(Builtin.firstCells i0.size l.length (.slice A l.length cap)).run P W.drew=.ok (B8 l).toArray W.drew→
   ∃v1 w1,(Builtin.append_ #[22,3] ty #[v,.int .i64 (k:Int)]).run P W=.ok v1 w1∧OwnB w1 base v1 (l++kQc k 0)∧W.grownBy w1 v.ownBlock∧(v1.ownBlock=v.ownBlock∨v1.ownBlock=some W.heap.size):=by
  intro A cap hv hg hold
  by_cases hk:k=0
  ·exfalso
   subst hk
   rcases HO.2 with ⟨e,hn⟩|⟨g,cap',cur,e,_,_,hnc,_⟩
   ·rw [hv]at e;injection e with _ _ e3;omega
   ·rw [hv]at e;injection e with _ _ e3;omega
  have hr:=Lib.run_append_grow_zeros (P:=P) W 22 3 ty 5 i0 (.int .u8 0) .i64 .i64 ht hint hi hz0 A l.length cap (B8 l) hold k (by omega) (by rw [hz1];omega) hg (by omega) (by rw [hz2];omega) (by
   have h1:=growslice_fits (by omega:cap<l.length+k) (show(l.length+k)*i0.bytes≤140737488355328 by rw [hz2];omega)
   omega)
  rw[←hv]at hr
  have hge:=grownCap_ge W (l.length+k) cap 5
  have hcm:grownCap W (l.length+k) cap 5≤maxLen:=grownCap_le_maxLen W (l.length+k) cap 5 (by unfold maxLen;omega)
  refine⟨_,_,hr,?_,⟨rfl,rfl,rfl,by simp,fun q hq _=>heap_alloc_old W.drew _ hq⟩,.inr rfl⟩
  rw[OwnB,kQj,List.length_replicate]
  refine⟨hlen,.inr ⟨W.heap.size,_,_,rfl,hbase,heap_alloc_new W.drew _,hge,hcm,?_,?_⟩⟩
  ·rw [qJT]
   simp only [Array.size_append,List.size_toArray,size_zeroCells,qQt,List.length_replicate]
   simp only [Value.cells,List.size_toArray,List.length_cons,List.length_nil]
   omega
  ·rw [qJT,qWU]
   simp only [Array.toList_append]
   rw[List.take_append_of_le_length (by simp [qQt]),kQn (by simp [qQt])]
 rcases HO.2 with ⟨rfl,hn⟩|⟨g,cap,cur,rfl,hbg,hg,hnc,hcm,hcs,htake⟩
 ·have hx:l=[]:=List.eq_nil_of_length_eq_zero hn
  subst hx
  by_cases hk:k=0
  ·subst hk
   refine⟨.slice none 0 0,W,?_,by simpa using HO,World.grownBy.refl W _,.inl rfl⟩
   simp [Builtin.append_,run_underlying ht,run_underlying hint,sizeOf,typeInfo,hi,asInt,asIntOf,IntKind.wrap_i64]
  ·exact grows none 0 rfl (by omega) (by rw [run_firstCells_none];rfl)
 ·by_cases hroom:l.length+k≤cap
  ·have hfit:l.length+(B8 (kQc k 0)).length≤cur.size:=by rw [qQt,List.length_replicate,hcs];omega
   have hst:=run_storeCells_cells (P:=P) g l.length (B8 (kQc k 0)) 0 W (fun j hj=>by
    have:(cur[l.length+0+j]?).isSome=true:=by simp;omega
    obtain⟨u,hu⟩:=Option.isSome_iff_exists.1 this
    rw[qQg hg (l.length+0+j) hu];rfl) (fun j hj=>qQz hg _) (B8_one _)
   have hsc:=qWY g 5 (B8 (kQc k 0)) l.length W cur hg hfit
   refine⟨.slice (some ⟨g,0,none⟩) (l.length+k) cap,W.setCells g l.length (B8 (kQc k 0)),?_,?_,qWy g _ _ _,.inl rfl⟩
   ·rcases Nat.eq_zero_or_pos k with hk|hk
    ·subst hk
     simp [Builtin.append_,run_underlying ht,run_underlying hint,sizeOf,typeInfo,hi,asInt,asIntOf,IntKind.wrap_i64,hnc,storeCells,B8,World.setCells]
    ·have hk0:¬(k*i0.size=0):=by rw [hz1];omega
     have hz:Builtin.zeroCells (Value.int .u8 0).cells k=(B8 (kQc k 0)).toArray:=qJT k
     simp [Builtin.append_,run_underlying ht,run_underlying hint,sizeOf,typeInfo,zeroValue,hi,hz0,asInt,asIntOf,hw,hneg,h48i,hk0,hroom,hz,Addr.add_lit,hz1]
     rw[if_neg (by omega)]
     have hst:(storeCells ⟨g,l.length,none⟩ (B8 (kQc k 0))).run P W=.ok () (W.setCells g l.length (B8 (kQc k 0))):=by simpa using hst
     rw[hst]
     rfl
   ·rw [OwnB,kQj,List.length_replicate]
    refine⟨hlen,.inr ⟨g,cap,_,rfl,hbg,hsc,hroom,hcm,?_,?_⟩⟩
    ·simp only [List.size_toArray,kQj,kQp,kQv,Array.length_toList]
     omega
    ·have e1:cur.toList.take l.length=B8 l:=by simpa using htake
     rw[e1,qWU]
     have e2:(l.length+k)*1=(B8 l++B8 (kQc k 0)).length:=by simp [qQt]
     rw[←List.append_assoc,e2]
     exact List.take_left
  ·exact grows (some ⟨g,0,none⟩) cap rfl (by omega) (by
    rw[hz1]
    exact run_firstCells_some (P:=P) W.drew 1 l.length ⟨g,0,none⟩ l.length cap (B8 l) (by simp [qQt]) (fun j u hj=>HO.cells (g:=g) rfl j u hj))
section
variable {P:Program} {o:Oper} {a:Act} {Q:Exit→Act→World→Prop} {K:Act→World→Prop}
theorem appz_wp (T:qXA P) (hint:P.underlying 3=some (.int .i64)) (s x:Operand) (ho:o.op=.call { callee:=.builtin .append,args:=#[s,x],argTypes:=#[22,3] }) {W:World}
  (base:Nat) (v:Value) (l:List UInt8) (k:Nat) (hs:a.eval s=v) (hx:a.eval x=.int .i64 (k:Int)) (HO:OwnB W base v l) (hbase:base≤W.heap.size) (hl:l.length+k≤140737488355328)
  (h:∀v1 w1,OwnB w1 base v1 (l++kQc k 0)→W.grownBy w1 v.ownBlock→(v1.ownBlock=v.ownBlock∨v1.ownBlock=some W.heap.size)→K (a.put o.dst v1) w1):o.wp P a W K Q:=by
 obtain⟨v1,w1,hr,h2,h3,h5⟩:=qY9 T hint o.type W base v l k HO hbase hl
 unfold Oper.wp execOp
 simp only [ho,resolve,invoke,builtin,Sem.run_bind,Sem.run_pure,Result.andThen_ok,kQs,kQw,List.map_nil,hs,hx,hr]
 exact h v1 w1 h2 h3 h5
end
end Go.Proofs.YtlocplkjokoknaaGreat
namespace Go.Proofs.YtlocplkjokoknaaGreat
open Go.RowKit
attribute [local go_sem ↓] Go.wp_at_zero Go.wp_at_succ
def numB (n:Int):UInt8:=UInt8.ofNat n.toNat
def qJk (o:Bool):UInt8:=if o then 1 else 0
def memL (z:Mem):List UInt8:=[numB z.n,qJk z.o]++z.k
def dirL (l:List Mem):List UInt8:=[numB l.length]++(l.map memL).flatten++kQc (273-(1+34*l.length)) 0
theorem qKr {n:Int} (h0:0≤n) (h1:n≤255):IntKind.u8.wrap n=((numB n).toNat:Int):=by
 rw[numB,UInt8.toNat_ofNat']
 simp only [IntKind.wrap,IntKind.signed,IntKind.bits]
 simp
 omega
theorem qJf {z:Mem} (h:OkM z):(memL z).length=34:=by simp [memL,h.1]
theorem qWe (l:List Mem) (h:∀z∈l,OkM z):(l.map memL).flatten.length=34*l.length:=by
 induction l with
 | nil=>rfl
 | cons z l ih=>
  rw[kQw,List.flatten_cons,kQj,qJf (h z (by simp)),ih (fun y hy=>h y (by simp [hy])),List.length_cons]
  omega
theorem qXu {l:List Mem} (h:∀z∈l,OkM z) (h8:l.length≤8):(dirL l).length=273:=by
 simp only [dirL,kQj,List.length_replicate,qWe l h,List.length_cons,List.length_nil]
 omega
theorem qYf {w W W':World} {NB:Nat} {x:UInt8} (hw:W.alloc (.cells #[.int .u8 (x.toNat:Int)] 5)=W') (hB:W.heap.size=NB) (hb:Below w.heap.size w W):OwnB W' w.heap.size (.slice (some ⟨NB,0,none⟩) 1 1) [x]∧Below w.heap.size w W'∧Below W.heap.size W W':=by
 subst hw hB
 exact⟨⟨by simp [B8],.inr ⟨W.heap.size,1,_,rfl,hb.size,heap_alloc_new W _,by simp,by simp [maxLen],by simp,by simp [B8]⟩⟩,hb.alloc hb.size _,(Below.refl _ _).alloc (kQh _) _⟩
theorem built_two {w W W':World} {NB:Nat} {x y:UInt8} (hw:W.alloc (.cells #[.int .u8 (x.toNat:Int),.int .u8 (y.toNat:Int)] 5)=W') (hB:W.heap.size=NB) (hb:Below w.heap.size w W):RdB W' (some ⟨NB,0,none⟩) [x,y]∧Below w.heap.size w W'∧Below W.heap.size W W':=by
 subst hw hB
 exact⟨RdB.row (l:=[x,y]) (qQk _ _ _ rfl),hb.alloc hb.size _,(Below.refl _ _).alloc (kQh _) _⟩
theorem dir_any (w:World) (A:Option Addr) (c:Nat) (zs:List Mem) (R:RdM w A zs) (h8:zs.length≤8) (hn:∀z∈zs,0≤z.n∧z.n≤255) :
  Calls Tryz.prog 45 #[.slice A zs.length c] w fun e w'=>∃v,e=.returned v∧OwnB w' w.heap.size v (dirL zs)∧Below w.heap.size w w':=by
 have TB:=Lh (show qXA Tryz.prog from⟨Tryz.underlying22,by kernel_rfl⟩)
 have HR:=Lh R
 have HN:=Lh hn
 obtain⟨q,hq⟩:∃q,q=zs.length:=⟨_,rfl⟩
 obtain⟨d,hd⟩:∃d,d=dirL zs:=⟨_,rfl⟩
 rw[←hq,←hd]
 have DE:=Lh hd
 have Q1:=Lh hq.symm
 have Q8:=Lh (show q≤8 by omega)
 have b0:(q:Int)≤8:=by omega
 have qw:IntKind.u8.wrap (q:Int)=((numB (q:Int)).toNat:Int):=qKr (by omega) (by omega)
 obtain⟨n0,hn0⟩:∃n0,n0=numB (q:Int):=⟨_,rfl⟩
 rw[←hn0]at qw
 have N0:=Lh hn0
 clear R hn hq hd hn0
 go_enter Tryz.func45,Tryz.ntmps45
 go_upto_region 1 with fail
 refine wp_region_list ?_
 simp only [kQf]
 refine qQa (by rfl) (by go_simp;rfl) ?_
 simp only [Act.put,pq1,pq2,pq3]
 refine qQa (by rfl) (by go_simp;rfl) ?_
 simp only [Act.put,pq1,pq2,pq3]
 refine qQa (by rfl) (by go_simp;rfl) ?_
 simp only [Act.put,pq1,pq2,pq3]
 refine qQs (by rfl) (fun K hK=>?_)
 go_simp
 generalize hB:Array.size (World.heap _)=N9
 generalize hw:World.alloc _ _=wn
 obtain⟨ho,hs,hb⟩:=qYf (x:=n0) hw hB (Below.refl _ _)
 have O:=Lh ho
 have Z:=Lh hs
 clear hB hw hb ho hs
 refine hK.out _ _ ?_
 clear hK K
 go_wp2_with fail
 go_loopw [3,12] (fun v i wr=>∃j:Nat,j≤q∧i=.int .i64 (j:Int)∧OwnB wr w.heap.size v ([n0]++((zs.take j).map memL).flatten)∧Below w.heap.size w wr) (fun _ i _=>q-(intOf i).toNat)
 case atStart=>exact⟨0,Nat.zero_le _,rfl,by simpa using O.out,Z.out⟩
 case round=>
  obtain⟨j,hj,rfl,ho,hb⟩:=hrel
  have J:=Lh hj
  have O:=Lh ho
  have BW:=Lh hb
  clear hj ho hb
  obtain⟨wp,rfl⟩:∃wp:World,wp=wr:=⟨_,rfl⟩
  by_cases hlt:j<q
  ·have hD:decide ((j:Int)<(q:Int))=true:=by simp;omega
   obtain⟨z,bz,oz,hz,hok,hA,hrz⟩:=HR.out.at (show j<zs.length by rw [Q1.out];exact hlt)
   obtain⟨cs,hcs⟩:∃cs,cs=RowM z:=⟨_,rfl⟩
   have hzm:z∈zs:=kQu hz
   have zw:IntKind.u8.wrap z.n=((numB z.n).toNat:Int):=qKr (HN.out z hzm).1 (HN.out z hzm).2
   obtain⟨nz,hnz⟩:∃nz,nz=numB z.n:=⟨_,rfl⟩
   rw[←hnz]at zw
   have OK:=Lh hok
   have AE:=Lh hA
   have JQ:=Lh hlt
   have CE:=Lh hcs
   have RZ:=Lh (show wp.rangeAt bz (oz+j*34) cs by rw [hcs];exact qQ4 hrz BW.out)
   have CL:=Lh (show(Tryz.prog.info? 63).map (·.size)=some cs.length by rw [hcs,qQ7 hok];exact qZC)
   have SZ:=Lh (show(34:Nat)=cs.toArray.size by rw [List.size_toArray,hcs,qQ7 hok])
   have CL2:=Lh (show(Tryz.prog.info? 63).map (·.size)=some cs.toArray.size by rw [List.size_toArray];exact CL.out)
   have CO:=Lh (show cs.toArray.all (·.oneCell')=true by rw [hcs];exact qVK z)
   have C0:=Lh (show cs.toArray[0]?=some (.int .i64 z.n) by rw [hcs];rfl)
   have C33:=Lh (show cs.toArray[33]?=some (.bool z.o) by rw [hcs];exact rowM_o hok.1)
   have TK:=Lh (show((zs.take (j+1)).map memL).flatten=((zs.take j).map memL).flatten++([nz,qJk z.o]++z.k) by rw [List.take_add_one,hz,hnz];simp [memL])
   have LL:=Lh (show([n0]++((zs.take j).map memL).flatten).length≤300 by
    have h1:=qWe (zs.take j) (fun y hy=>HR.out.ok y (List.mem_of_mem_take hy))
    rw[kQj,h1,kQp];have:=Q8.out;have:=Q1.out;simp;omega)
   obtain⟨L,hL⟩:∃L,L=[n0]++((zs.take j).map memL).flatten:=⟨_,rfl⟩
   rw[←hL]at O LL
   have LE:=Lh hL
   have NZ:=Lh hnz
   clear hz hok hA hrz hlt hcs hzm hL hnz
   go_upto_region 4 with fail
   refine wp_region_list ?_
   simp only [kQf]
   refine qQa (by rfl) (qQr 23 (.tmp 10) (.tmp 12) rfl 63 Tryz.underlying23 34 qZC bz oz q c j JQ.out .i64 _ rfl (by rw [←AE.out];rfl) rfl _) ?_
   simp only [Act.put,pq1,pq2,pq3]
   refine qQa (by rfl) (qQI 63 (.tmp 14) rfl bz (oz+j*34) rfl cs RZ.out Tryz.underlying63 rfl CL.out) ?_
   simp only [Act.put,pq1,pq2,pq3]
   go_upto_region 5 with (refine qQp rfl rfl 63 (.tmp 5) (.tmp 15) rfl cs.toArray rfl rfl CL2.out SZ.out CO.out ?_)
   generalize hM:Array.size (World.heap wp)=M
   generalize hw7:World.alloc wp _=w7
   have B7:=Lh (show Below wp.heap.size wp w7 by rw [←hw7];exact qQh _ _)
   have R7:=Lh (show w7.drew.heap[M]?=some (.cells cs.toArray 63 (0,0)) by rw [←hw7];exact qQk _ _ _ hM.symm)
   have MV:=Lh (show some M≠_ from fun e=>by have:=(O.out.lt M e.symm).2;omega)
   have O:=Lh ((O.out.below B7.out).drew)
   have Z:=Lh (show Below w.heap.size w w7.drew from(BW.out.trans (B7.out.mono BW.out.size)).drew)
   clear hM hw7
   refine qQu (fun W=>W.heap[M]?=some (.cells cs.toArray 63 (0,0))) [(true,0),(true,1),(true,2),(true,3),(true,4),(true,5),(true,9),(true,10),(false,6),(false,7),(false,8),(false,11),(true,12)] (by kernel_rfl) (by kernel_rfl) (fun _ _ d _ _ h=>by cases d<;>exact h) ?_
   simp only [kQl,kQm,kQd,kQg,kQe,kQo]
   generalize World.drew w7=wd7 at R7 O Z ⊢
   refine qQc (by rfl) R7.out (fun W hW=>by go_simp;rfl) ?_
   simp only [Act.put,pq1,pq2,pq3]
   refine qQc (by rfl) R7.out (fun W hW=>by go_simp;rfl) ?_
   simp only [Act.put,pq1,pq2,pq3]
   refine qQc (by rfl) R7.out (fun W hW=>qQq 3 (.tmp 17) rfl _ Tryz.underlying3 rfl rfl (qQg hW 0 C0.out)) ?_
   simp only [Act.put,pq1,pq2,pq3]
   refine qQc (by rfl) R7.out (fun W hW=>by go_simp;rfl) ?_
   simp only [Act.put,pq1,pq2,pq3]
   refine qQc (by rfl) R7.out (fun W hW=>by go_simp;rfl) ?_
   simp only [Act.put,pq1,pq2,pq3]
   refine qQc (by rfl) R7.out (fun W hW=>qQq 4 (.tmp 20) rfl _ Tryz.underlying4 rfl rfl (qQg hW 33 C33.out)) ?_
   simp only [Act.put,pq1,pq2,pq3]
   refine qQc (by rfl) R7.out (fun W hW=>by go_simp;rfl) ?_
   simp only [Act.put,pq1,pq2,pq3]
   refine qQc (by rfl) R7.out (fun W hW=>qZA 38 (.tmp 25) rfl 32 5 Tryz.underlying38 rfl M 1 rfl W) ?_
   simp only [Act.put,pq1,pq2,pq3]
   refine qQE (by rfl) (fun K hK=>?_)
   go_simp
   refine(flag_any wd7 z.o).mono ?_
   obtain⟨fl,hfl⟩:∃fl:UInt8,fl=if z.o then 1 else 0:=⟨_,rfl⟩
   rw[←hfl]
   have FLE:=Lh (show fl=qJk z.o from hfl)
   clear hfl
   rintro e wd ⟨rfl,hw⟩
   rw[hw]
   clear hw wd
   refine hK.out _ _ R7.out ?_
   clear hK K
   refine qQE (by rfl) (fun K hK=>?_)
   go_simp
   generalize hB:Array.size (World.heap _)=N8
   generalize hw:World.alloc _ _=wn
   obtain⟨hr,hs,hb⟩:=built_two (x:=nz) (y:=fl) hw hB Z.out
   have R9:=Lh hr
   have Z:=Lh hs
   have O:=Lh (O.out.below hb)
   have R7:=Lh (qQb hb (qQe R7.out) R7.out)
   clear hB hw hb hr hs
   refine hK.out _ _ R7.out ?_
   clear hK K
   refine qQE (by rfl) (fun K hK=>?_)
   refine qV2 TB.out (.tmp 16) (.tmp 23) rfl w.heap.size _ L [nz,fl] (some ⟨N8,0,none⟩) 2 2 rfl rfl rfl O.out R9.out Z.out.size (by have:=LL.out;omega) ?_
   intro v8 w8 ho hg hat
   have R8:=Lh (qQd hg MV.out R7.out)
   have MV8:=Lh (show some M≠v8.ownBlock from fun e=>by
    rcases hat with h|h
    ·exact MV.out (e.trans h)
    ·rw [h]at e;have:=qQe R7.out;have:=Option.some.inj e;omega)
   have Z:=Lh (qXI Z.out O.out hg)
   have O:=Lh ho
   clear ho hg hat
   have RK:=Lh (show RdB w8 (some ⟨M,1,none⟩) z.k by have:=RdB.range (qWM (z:=z) (W:=w8) (b:=M) (o:=0) (by rw [←CE.out];exact qQ5 R8.out));rwa [Nat.zero_add]at this)
   refine hK.out _ _ R8.out ?_
   clear hK K
   refine qQE (by rfl) (fun K hK=>?_)
   refine qV2 TB.out (.tmp 24) (.tmp 26) rfl w.heap.size v8 _ z.k (some ⟨M,1,none⟩) 32 32 rfl rfl OK.out.1 O.out RK.out Z.out.size (by have:=LL.out;simp;omega) ?_
   intro v9 w9 ho hg hat
   have R9:=Lh (qQd hg MV8.out R8.out)
   have Z:=Lh (qXI Z.out O.out hg)
   have O:=Lh (show OwnB w9 w.heap.size v9 ([n0]++((zs.take (j+1)).map memL).flatten) by rw [TK.out,←List.append_assoc,←List.append_assoc,←LE.out,←FLE.out];exact ho)
   clear ho hg hat
   refine hK.out _ _ R9.out ?_
   clear hK K
   refine qQc (by rfl) R9.out (fun W hW=>by go_simp;rfl) ?_
   simp only [Act.put,pq1,pq2,pq3]
   refine qQG ?_
   go_wp2_with fail
   go_roundw
   case rel=>exact⟨j+1,by have:=JQ.out;omega,by go_num,O.out,Z.out⟩
   case measure=>have:=JQ.out;simp [intOf];omega
  ·have hD:decide ((j:Int)<(q:Int))=false:=by simp;omega
   have Z:=Lh BW.out
   have O:=Lh (show OwnB wp w.heap.size _ ([n0]++(zs.map memL).flatten) by have h1:=O.out;rwa [kQn (by rw [Q1.out];omega)]at h1)
   have LL:=Lh (show([n0]++(zs.map memL).flatten).length=1+34*q by rw [kQj,qWe zs HR.out.ok,Q1.out];rfl)
   go_upto_region 7 with fail
   obtain⟨n3,hn3⟩:∃n3,n3=([n0]++(zs.map memL).flatten).length:=⟨_,rfl⟩
   obtain⟨A3,c3,rfl,_,_,_,_⟩:=O.out.read
   rw[←hn3]at O ⊢
   have N3:=Lh (hn3.symm.trans rfl)
   have N4:=Lh (show n3=1+34*q by rw [hn3,LL.out])
   clear hn3
   have b3:(n3:Int)≤273:=by have:=N4.out;have:=Q8.out;omega
   obtain⟨k,hk⟩:∃k:Nat,k=273-n3:=⟨_,rfl⟩
   have ek:(273:Int)-(n3:Int)=(k:Int):=by omega
   have KE:=Lh hk
   clear hk
   refine wp_region_list ?_
   simp only [kQf]
   refine qQa (by rfl) (by go_simp;rfl) ?_
   simp only [Act.put,pq1,pq2,pq3]
   refine qQa (by rfl) (by go_simp;rfl) ?_
   simp only [Act.put,pq1,pq2,pq3]
   refine qQa (by rfl) (by go_simp;rfl) ?_
   simp only [Act.put,pq1,pq2,pq3]
   refine qQa (by rfl) (by go_simp;rfl) ?_
   simp only [Act.put,pq1,pq2,pq3]
   rw[show IntKind.i64.wrap (k:Int)=k by rw [IntKind.wrap_i64];omega]
   refine qQs (by rfl) (fun K hK=>?_)
   refine appz_wp TB.out Tryz.underlying3 (.tmp 29) (.tmp 32) rfl w.heap.size _ _ k rfl rfl O.out Z.out.size (by rw [LL.out];have:=Q8.out;omega) ?_
   intro v4 w4 ho hg _
   have Z:=Lh (qXI Z.out O.out hg)
   have O:=Lh (show OwnB w4 w.heap.size v4 d by rw [DE.out,dirL,Q1.out,show numB (q:Int)=n0 from N0.out.symm,←N4.out,←KE.out];exact ho)
   clear ho hg
   refine hK.out _ _ ?_
   clear hK K
   simp only [Act.put,pq1,pq2,pq3]
   go_wp2_with fail
   go_ret
   exact⟨_,rfl,O.out,Z.out⟩
theorem bkey_any (w0:World) (g S D b lo:Nat) (s:BSt) (w:World) (h:BoxB w0 g S D b lo s w) (hu:s.u+32≤900000) (hF:s.F.length≤100000) :
  Calls Tryz.prog 26 #[.pointer (some ⟨g,0,none⟩)] w fun e w'=>e=.returned (.agg (W8 (qQR s.F s.u 32)))∧BoxB w0 g S D b lo { s with u:=s.u+32 } w'∧w.grownBy w' (some S):=by
 have H:=Lh h
 have HU:=Lh hu
 have HF:=Lh hF
 have Z32:=Lh qJn
 obtain⟨X,hX⟩:∃X,X=qQR s.F s.u 32:=⟨_,rfl⟩
 have XL:=Lh (show X.length=32 by rw [hX,qQy])
 rw[←hX]
 have XE:=Lh hX
 clear h hu hF hX
 go_enter Tryz.func26,Tryz.ntmps26
 go_upto_region 1 with fail
 rw[←Z32.out]
 generalize hM:Array.size (World.heap w)=M
 generalize hw1:World.alloc w _=w1
 have B1:=Lh (show Below w.heap.size w w1 by rw [←hw1];exact qQh _ _)
 have R1:=Lh (show w1.heap[M]?=some (.cells (W8 (kQc 32 0)) 38 (0,0)) by rw [←hw1];exact qQk _ _ _ hM.symm)
 have H1:=Lh (H.out.keep B1.out)
 have ME:=Lh hM
 have SM:=Lh (show S<M by rw [←hM];exact H.out.src.lt)
 have DM:=Lh (show D<M by rw [←hM];exact H.out.ltD)
 clear hw1 hM
 go_wp2_with fail
 refine(qWi w0 g S D b lo s w1 H1.out).mono ?_
 rintro e w2 ⟨rfl,hw⟩
 rw[hw]
 clear hw w2
 have c1:=qQg H1.out.row 1 rfl
 go_wp2_with fail
 refine(dkey_any S D s.F s.u true w1 H1.out.src H1.out.ltD HF.out HU.out).mono ?_
 rw[←XE.out]
 rintro e w2 ⟨rfl,hs,hg⟩
 have ZX2:=Lh (show(Tryz.prog.info? 38).map (·.size)=some (W8 X).size by rw [qQw,XL.out];kernel_rfl)
 have SR:=Lh hs
 have G2:=Lh hg
 have R2:=Lh (qQd hg (by intro e;have:=Option.some.inj e;have:=SM.out;omega) R1.out)
 have GG:∀{w8:World},w2.grownBy w8 (some M)→w.grownBy w8 (some S):=fun hg8=>qWR (World.grownBy.trans (qQJ B1.out).mono_none G2.out) hg8 (by rintro k ⟨⟩;have:=ME.out;omega)
 clear hs hg c1
 go_wp2_with (refine qQf rfl rfl 38 (.tmp 2) (.tmp 10) rfl M (W8 X) rfl rfl 38 _ R2.out ZX2.out (by rw [qQw,qQw,XL.out];simp) (qZg _) ?_;intro w8 hz8 hg8 _)
 refine bodyPost_ret (results_cell_row rfl _ _ M 38 (W8 X) (0,0) _ rfl hz8 Tryz.underlying38 rfl ZX2.out) rfl ⟨rfl,H.out.step (SR.out.far hg8 (by rintro k ⟨⟩;have:=SM.out;have:=DM.out;omega)) (GG hg8),GG hg8⟩
theorem qKt (w0:World) (g S D b lo:Nat) (s:BSt) (w:World) (h:BoxB w0 g S D b lo s w) :
  Calls Tryz.prog 25 #[.pointer (some ⟨g,0,none⟩)] w fun e w'=>e=.returned (.bool false)∧Below w.heap.size w w':=by
 have H:=Lh h
 clear h
 obtain⟨cs,n,hn,hcs⟩:∃(cs:Array Value) (n:Nat),65536<n∧(Instr.makeSlice 22 (.int .i64 65537) (.int .i64 65537)).run Tryz.prog w=.ok (.slice (some ⟨w.heap.size,0,none⟩) n n) (w.alloc (.cells cs 5)):=
  ⟨_,65537,by omega,make_run 65537 (by omega) w⟩
 have Z32:=Lh qJn
 have NB:=Lh hn
 go_enter Tryz.func25,Tryz.ntmps25
 go_wp2_with fail
 clear hcs hn
 generalize hw1:World.alloc w _=w1
 have B1:=Lh (show Below w.heap.size w w1 by rw [←hw1];exact qQh _ _)
 clear hw1
 rw[←Z32.out]
 refine(bseal_big w0 g S D b lo s w1 (H.out.keep B1.out) (kQc 32 0) _ n n NB.out).mono ?_
 rintro e w2 ⟨rfl,hb⟩
 have B2:=Lh (B1.out.trans (hb.mono B1.out.size))
 clear hb
 go_wp2_with fail
 go_ret
 exact⟨rfl,B2.out⟩
theorem qJI {P:Program} {o:Oper} {a:Act} {Q:Exit→Act→World→Prop} {W:World} {K:Act→World→Prop} (T:qXA P) (d s:Operand) (ho:o.op=.call { callee:=.builtin .copy,args:=#[d,s],argTypes:=#[22,22] })
  (g off dLen dCap:Nat) (A:Option Addr) (sLen sCap:Nat) (hd:a.eval d=.slice (some ⟨g,off,none⟩) dLen dCap) (hs:a.eval s=.slice A sLen sCap) (cur:Array Value) (t:TypeId) (hg:W.heap[g]?=some (.cells cur t (0,0)))
  (src:List UInt8) (hl:src.length=sLen) (hR:RdB W A src) (m:Nat) (hm:m=Nat.min sLen dLen) (hfit:off+m≤cur.size)
  (h:∀w',w'.heap[g]?=some (.cells (cur.toList.take off++(B8 (src.take m)++cur.toList.drop (off+m))).toArray t (0,0))→W.grownBy w' (some g)→w'.heap.size=W.heap.size→K (a.put o.dst (.int .i64 (m:Int))) w'):o.wp P a W K Q:=by
 by_cases h0:0<sLen
 ·exact copyB_wp T d s ho g off dLen dCap A sLen sCap hd hs cur t hg src hl hR h0 m hm hfit h
 ·have hm0:m=0:=by
   rw[hm]
   have:sLen=0:=by omega
   rw[this];exact Nat.min_eq_left (Nat.zero_le _)
  have hsz:(P.info? 5).map (·.size)=some 1:=by
   have:=T.hinfo
   revert this
   cases P.info? 5<;>simp<;>intros<;>assumption
  have hrun:=run_copy_none (P:=P) W 22 22 o.type 5 (some ⟨g,off,none⟩) A dLen dCap sLen sCap T.ht hsz (by rw [←hm,hm0])
  unfold Oper.wp execOp
  simp only [ho,resolve,invoke,builtin,Sem.run_bind,Sem.run_pure,Result.andThen_ok,kQs,kQw,List.map_nil,hd,hs,hrun]
  have:=h W (by rw [hg,hm0];simp [B8]) (World.grownBy.refl _ _) rfl
  rw[hm0]at this
  exact this
theorem qXl {P:Program} {o:Oper} {a:Act} {Q:Exit→Act→World→Prop} {w:World} {K:Act→World→Prop} (ty:TypeId) (x y:Operand) (ho:o.op=.store ty x y)
  (g:Nat) (cells:Array Value) (hx:a.eval x=.pointer (some ⟨g,0,none⟩)) (hy:a.eval y=.agg cells)
  (t:TypeId) (old:Array Value) (hg:w.heap[g]?=some (.cells old t (0,0))) (hi:(P.info? ty).map (·.size)=some cells.size)
  (hold:old.size=cells.size) (h1:cells.all (·.oneCell')=true)
  (h:∀w',w'.heap[g]?=some (.cells cells t (0,0))→w.grownBy w' (some g)→w'.heap.size=w.heap.size→K (a.put o.dst undef) w'):o.wp P a w K Q:=
 wp_store_row ty x y ho g cells hx hy t old hg hi hold h1
  (h _ (setRow_heap w g _ _ t _ hg) ⟨rfl,rfl,rfl,by simp,fun k hk hne=>setRow_other w g k cells (fun e=>hne (by rw [e]))⟩ (by simp))
theorem mul64_one (w:World):Calls Tryz.prog 95 #[.int .u64 1,.int .u64 73] w fun e w'=>e=.returned (.tuple #[.int .u64 0,.int .u64 73])∧w'=w:=by
 go_enter Tryz.func95,Tryz.ntmps95
 go_wp2_with fail
 go_ret2
 exact⟨rfl,rfl⟩
theorem mul_one73 (w:World):Calls Tryz.prog 71 #[.int .u64 1,.int .u64 73] w fun e w'=>e=.returned (.tuple #[.int .u64 0,.int .u64 73])∧w'=w:=by
 go_enter Tryz.func71,Tryz.ntmps71
 go_wp2_with fail
 refine(mul64_one w).mono ?_
 rintro e w1 ⟨rfl,hw⟩
 rw[hw]
 clear hw w1
 go_wp2_with fail
 go_ret2
 exact⟨rfl,rfl⟩
theorem repeat_full (w:World) (A:Option Addr) (R:RdB w A [255]):Calls Tryz.prog 51 #[.slice A 1 1,.int .i64 73] w fun e w'=>∃G,e=.returned (.slice (some ⟨G,0,none⟩) 73 73)∧w.heap.size≤G∧G<w'.heap.size∧RdB w' (some ⟨G,0,none⟩) (kQc 73 255)∧Below w.heap.size w w':=by
 have TB:=Lh (show qXA Tryz.prog from⟨Tryz.underlying22,by kernel_rfl⟩)
 have HR:=Lh R
 clear R
 go_enter Tryz.func51,Tryz.ntmps51
 go_wp2_with fail
 refine(mul_one73 w).mono ?_
 rintro e w1 ⟨rfl,hw⟩
 rw[hw]
 clear hw w1
 obtain⟨cs,hrun,hn1,hn2⟩:=Lib.run_makeNoZero (P:=Tryz.prog) w #[3] 22 5 Tryz.underlying22 73 (by omega)
 have h8:(callFunc 72 #[.int .i64 73]).run Tryz.prog w=.ok (.value (.slice (some ⟨w.heap.size,0,none⟩) 73 cs.size)) (w.drew.drew.alloc (.cells cs 5)):=by
  rw[@run_callFunc_extern Tryz.prog 72 _ (Extern.BytealgMakeNoZero.makeNoZero #[3] #[22]) Tryz.func72 (by kernel_rfl) (by kernel_rfl) (by kernel_rfl) (by kernel_rfl),show(.int .i64 73:Value)=.int .i64 ((73:Nat):Int)from rfl,hrun]
  rfl
 obtain⟨n,hn⟩:∃n,n=cs.size:=⟨_,rfl⟩
 rw[←hn]at h8 hn1
 have nb:(73:Int)≤(n:Int):=by omega
 have CS:=Lh hn.symm
 have N73:=Lh hn1
 clear hrun hn1 hn2 hn
 go_upto_region 17 with fail
 generalize hM:Array.size (World.heap w)=M
 have ML:=Lh hM
 generalize hw1:World.alloc w _=w1
 have B1:=Lh (show Below w.heap.size w w1.drew.drew by rw [←hw1];exact(qQh _ _).drew.drew)
 have R1:=Lh (show w1.drew.drew.heap[M]?=some (.cells cs 5 (0,0)) by rw [←hw1];exact qQk _ _ _ hM.symm)
 clear hM hw1 h8
 generalize World.drew (World.drew w1)=w2 at B1 R1 ⊢
 refine wp_region_list ?_
 simp only [kQf]
 refine qQa (by rfl) (by go_simp;rfl) ?_
 simp only [Act.put,pq1,pq2,pq3]
 refine qQa (by rfl) (by go_simp;rfl) ?_
 simp only [Act.put,pq1,pq2,pq3]
 refine qQs (by rfl) (fun K hK=>?_)
 refine qJI TB.out (.tmp 58) (.tmp 59) rfl M 0 73 73 A 1 1 rfl rfl cs 5 R1.out [255] rfl (HR.out.keep B1.out) 1 rfl (by rw [CS.out];have:=N73.out;omega) ?_
 intro w3 hr hg hs
 have G3:=Lh (show Below w.heap.size w w3 from B1.out.trans (qQi hg B1.out.size (by rintro k ⟨⟩;rw [ML.out];exact kQh _)))
 obtain⟨c3,hc3⟩:∃c3,c3=(cs.toList.take 0++(B8 ([255].take 1)++cs.toList.drop (0+1))).toArray:=⟨_,rfl⟩
 rw[←hc3]at hr
 have R3:=Lh hr
 have T3:=Lh (show c3.toList.take 1=B8 (kQc 1 255) by rw [hc3];rfl)
 have S3:=Lh (show 73≤c3.size by rw [hc3];have:=N73.out;have:=CS.out;simp [B8];omega)
 clear hr hg hs hc3
 refine hK.out _ _ ?_
 clear hK K
 simp only [Act.put,pq1,pq2,pq3]
 go_wp2_with fail
 go_loopw [10] (fun v wr=>∃(m:Nat) (c:Array Value),1≤m∧m≤73∧v=.int .i64 (m:Int)∧wr.heap[M]?=some (.cells c 5 (0,0))∧c.toList.take m=B8 (kQc m 255)∧73≤c.size∧Below w.heap.size w wr) (fun v _=>73-(intOf v).toNat)
 case atStart=>exact⟨1,c3,by omega,by omega,rfl,R3.out,T3.out,S3.out,G3.out⟩
 case round=>
  obtain⟨m,c,hm1,hm2,rfl,hr,ht,hs,hb⟩:=hrel
  have R:=Lh hr
  have T:=Lh ht
  have SZ:=Lh hs
  have BW:=Lh hb
  have M1:=Lh (And.intro hm1 hm2)
  clear hr ht hs hb R3 T3 S3 G3
  obtain⟨wp,rfl⟩:∃wp:World,wp=wr:=⟨_,rfl⟩
  by_cases hlt:m<73
  ·have hD:decide ((m:Int)<73)=true:=by simp;omega
   have hN:decide ((73:Int)<(m:Int))=false:=by simp;omega
   have m0:(m:Int)≤73:=by omega
   have eM:min (m:Int) 73=(m:Int):=by omega
   clear hm1 hm2
   go_upto_region 20 with fail
   have R0:=Lh (show wp.drew.heap[M]?=some (.cells c 5 (0,0))from R.out)
   have B0:=Lh (show Below w.heap.size w wp.drew from BW.out.drew)
   have hne:¬(73=m):=by omega
   have hle:m≤73:=by omega
   refine qQu (fun _=>True) [(true,0),(true,1),(true,2),(true,3),(true,4),(true,5),(true,6),(false,7),(true,8),(true,9)] (by kernel_rfl) (by kernel_rfl) (fun _ _ d _ _ h=>by cases d<;>exact h) ?_
   simp only [kQl,kQm,kQd,kQg,kQe,kQo]
   generalize World.drew wp=wd at R0 B0 ⊢
   refine qQc (by rfl) (trivial) (fun W hW=>by go_simp;rfl) ?_
   simp only [Act.put,pq1,pq2,pq3]
   refine qQc (by rfl) (trivial) (fun W hW=>by go_simp;rfl) ?_
   simp only [Act.put,pq1,pq2,pq3]
   refine qQc (by rfl) (trivial) (fun W hW=>by go_simp;rfl) ?_
   simp only [Act.put,pq1,pq2,pq3]
   refine qQc (by rfl) (trivial) (fun W hW=>by go_simp;rfl) ?_
   simp only [Act.put,pq1,pq2,pq3]
   refine qQc (by rfl) (trivial) (fun W hW=>by go_simp;rfl) ?_
   simp only [Act.put,pq1,pq2,pq3]
   refine qQc (by rfl) (trivial) (fun W hW=>by go_simp;rfl) ?_
   simp only [Act.put,pq1,pq2,pq3]
   refine qQc (by rfl) (trivial) (fun W hW=>by go_simp;rfl) ?_
   simp only [Act.put,pq1,pq2,pq3]
   obtain⟨k,hk⟩:∃k,k=Nat.min m (73-m):=⟨_,rfl⟩
   have K1:=Lh (show k≤m∧m+k≤73∧1≤k by
    have h1:=Nat.min_le_left m (73-m)
    have h2:=Nat.min_le_right m (73-m)
    have h3:1≤Nat.min m (73-m):=by have:=M1.out.1;exact Nat.le_min.2 ⟨this,by omega⟩
    rw[hk];refine⟨h1,?_,h3⟩;have h4:Nat.min m (73-m)≤73-m:=h2;omega)
   have RS:=Lh (show RdB wd (some ⟨M,0,none⟩) (kQc m 255)from fun j hj=>⟨M,0,rfl,by
    have h2:=qV3 (kQc m 255) j hj
    rw[←T.out,List.getElem?_take,if_pos (by simpa using hj)]at h2
    rw[Nat.zero_add]
    exact qQg R0.out j (by simpa using h2)⟩)
   refine qQE (by rfl) (fun K hK=>?_)
   refine qJI TB.out (.tmp 70) (.tmp 73) rfl M m (73-m) (73-m) (some ⟨M,0,none⟩) m 73 rfl rfl c 5 R0.out (kQc m 255) (by simp) RS.out k hk (by have:=K1.out;have:=SZ.out;omega) ?_
   intro w4 hr hg hs
   obtain⟨c4,hc4⟩:∃c4,c4=(c.toList.take m++(B8 ((kQc m 255).take k)++c.toList.drop (m+k))).toArray:=⟨_,rfl⟩
   rw[←hc4]at hr
   have R4:=Lh hr
   have T4:=Lh (show c4.toList.take (m+k)=B8 (kQc (m+k) 255) by
    have e1:(c.toList.take m++B8 ((kQc m 255).take k))=B8 (kQc (m+k) 255):=by
     rw[T.out,List.take_replicate,Nat.min_eq_left K1.out.1,←qWU,List.replicate_append_replicate]
    rw[hc4,←List.append_assoc,e1]
    exact List.take_left' (by simp [qQt]))
   have S4:=Lh (show 73≤c4.size by rw [hc4];have:=SZ.out;have:=K1.out;simp [qQt,kQp];omega)
   have B4:=Lh (show Below w.heap.size w w4 from B0.out.trans (qQi hg B0.out.size (by rintro q ⟨⟩;rw [ML.out];exact kQh _)))
   clear hr hg hs hc4 hk hlt hne hle
   have kb:(m:Int)+(k:Int)≤73:=by have:=K1.out;omega
   have ew:IntKind.i64.wrap ((m:Int)+(k:Int))=(m:Int)+(k:Int):=by rw [IntKind.wrap_i64];omega
   refine hK.out _ _ (trivial) ?_
   clear hK K
   refine qQc (by rfl) (trivial) (fun W hW=>by go_simp;rfl) ?_
   simp only [Act.put,pq1,pq2,pq3]
   refine qQc (by rfl) (trivial) (fun W hW=>by go_simp;rfl) ?_
   simp only [Act.put,pq1,pq2,pq3]
   refine qQG ?_
   go_wp2_with fail
   go_roundw
   case rel=>exact⟨m+k,c4,by have:=M1.out;omega,by have:=K1.out;omega,by go_num,R4.out,T4.out,S4.out,B4.out⟩
   case measure=>have:=K1.out;simp [intOf];omega
  ·obtain rfl:m=73:=by omega
   clear hm1 hm2 hlt
   go_wp2_with fail
   go_ret
   refine⟨M,rfl,by have:=ML.out;omega,qQe R.out,?_,BW.out⟩
   intro j hj
   refine⟨M,0,rfl,?_⟩
   have h1:c[j]?=some (.int .u8 (((kQc 73 255:List UInt8).getD j 0).toNat:Int)):=by
    have h2:=qV3 (kQc 73 255) j hj
    rw[←T.out,List.getElem?_take,if_pos (by simpa using hj)]at h2
    simpa using h2
   rw[Nat.zero_add]
   exact qQg R.out j h1
end Go.Proofs.YtlocplkjokoknaaGreat
namespace Go.Proofs.YtlocplkjokoknaaGreat
open Go.RowKit
def qZF:List UInt8:=[119,114,97,112]
def dirB:List UInt8:=[100,105,114]
def fullL:List UInt8:=kQc 73 255
def qXd (y:Kys) (l:List Mem) (i:Nat) (s:BSt):BSt×Ent:=
 match l[i]? with
 | some z=>(s,⟨z.k,qZF,qXh y z.o⟩)
 | none=>({ s with u:=s.u+32 },⟨qQR s.F s.u 32,qZF,fullL⟩)
inductive WrapsR (y:Kys) (l:List Mem) (s:BSt):Nat→BSt→List (List UInt8)→Prop
 | zero:WrapsR y l s 0 s []
 | succ {i:Nat} {s1 s2:BSt} {xs:List (List UInt8)} {x:List UInt8}:WrapsR y l s i s1 xs→SealR (qXd y l i s1).1 (qXd y l i s1).2 s2 (some x)→WrapsR y l s (i+1) s2 (xs++[x])
def dirE (y:Kys) (l:List Mem):Ent:=⟨y.o,dirB,dirL l⟩
def qYn (y:Kys) (l:List Mem) (s s':BSt) (r:Option (List (List UInt8)×List UInt8)):Prop:=
 (∃i s1 xs,i<8∧WrapsR y l s i s1 xs∧SealR (qXd y l i s1).1 (qXd y l i s1).2 s' none∧r=none)∨
 (∃s1 xs,WrapsR y l s 8 s1 xs∧SealR s1 (dirE y l) s' none∧r=none)∨
 (∃s1 xs d,WrapsR y l s 8 s1 xs∧SealR s1 (dirE y l) s' (some d)∧r=some (xs,d))
theorem WrapsR.len {y:Kys} {l:List Mem} {s s1:BSt} {i:Nat} {xs:List (List UInt8)} (h:WrapsR y l s i s1 xs):xs.length=i:=by
 induction h with
 | zero=>rfl
 | succ _ _ ih=>simp [ih]
theorem qXy {y:Kys} (hy:OkK y) {l:List Mem} {i:Nat} {s:BSt}:(qXd y l i s).2.text.length=73:=by
 unfold qXd
 split
 ·exact qWo hy _
 ·rfl
theorem qZM {y:Kys} {l:List Mem} {i:Nat} {s:BSt}:(qXd y l i s).1.mode=s.mode∧(qXd y l i s).1.F=s.F∧(qXd y l i s).1.u≤s.u+32∧(qXd y l i s).1.n=s.n∧(qXd y l i s).1.m=s.m:=by
 unfold qXd
 split<;>simp
theorem WrapsR.bounds {y:Kys} (hy:OkK y) {l:List Mem} {s s1:BSt} {i:Nat} {xs:List (List UInt8)} (h:WrapsR y l s i s1 xs):s1.mode=s.mode∧s1.F=s.F∧s1.u≤s.u+i*840∧s1.n≤s.n+i∧s1.m.length≤s.m.length+i:=by
 induction h with
 | zero=>simp
 | @succ i s1 s2 xs x _ hs ih=>
  have h1:=hs.mode
  have h2:=@qZM y l i s1
  rw[qXy hy]at h1
  rw[h2.1,h2.2.1]at h1
  have hm:=h2.2.2.2.2
  rw[hm]at h1
  refine⟨h1.1.trans ih.1,h1.2.1.trans ih.2.1,?_,?_,?_⟩<;>omega
theorem BoxB.grownT {w0 W W':World} {g S D b lo:Nat} {s:BSt} {r:Option Nat} (h:BoxB w0 g S D b lo s W) (hg:W.grownBy W' r) (hl:D<lo) (hw:w0.heap.size≤lo)
  (hr:∀q,r=some q→lo≤q∧∃cur T fr,W.heap[q]?=some (.cells cur T fr)∧T≠5):BoxB w0 g S D b lo s W':=by
 have hne:∀k,k<lo→some k≠r:=fun k hk e=>by have:=(hr k e.symm).1;omega
 have hlS:=h.lS
 obtain⟨es,clock,m1,m2,m3⟩:=h.map.has
 refine⟨h.bel.trans (qQi hg h.bel.size (fun q e=>kQk hw (hr q e).1)),h.hg,h.hS,h.hD,h.hb,qQd hg (hne g h.lg) h.row,h.src.far hg (fun q e=>⟨by have:=(hr q e).1;omega,by have:=(hr q e).1;omega⟩),kQb h.ltD hg.size,⟨⟨es,clock,qQd hg (hne b h.map.low) m1,m2,m3.mono fun x p hx=>?_⟩,h.map.small,h.map.low⟩,h.gS,h.gD,h.gb,h.Sb,h.Db,h.lg,h.lS,h.few⟩
 obtain⟨h1,A,c,h2,h3,h4,h5,h6⟩:=hx
 have hq:∀a,A=some a→some a.block≠r:=by
  intro a ea e
  obtain⟨cur,fr,hc⟩:=(h6 a ea).2.2
  obtain⟨_,cur',T,fr',hc',ht'⟩:=hr _ e.symm
  rw[hc]at hc'
  injection hc' with hc'
  injection hc' with _ ht _
  exact ht' ht.symm
 exact⟨h1,A,c,h2,h3.grown hg (fun q e a ea e2=>hq a ea (by rw [e2,e])),h4,h5,fun a ea=>⟨kQb (h6 a ea).1 hg.size,(h6 a ea).2.1,(h6 a ea).2.2.grown hg (hq a ea)⟩⟩
def RgB (base:Nat) (W:World) (v:Value) (xs:List (List UInt8)) (d:List UInt8):Prop:=
 ∃A c vs dv,v=.agg #[.slice A xs.length c,dv]∧xs.length≤c∧vs.length=xs.length∧RdV W A vs∧(∀a,A=some a→base≤a.block∧a.block<W.heap.size)∧
  (∀(i:Nat) (x:List UInt8),xs[i]?=some x→∃u,vs[i]?=some u∧SlA base none W u x)∧SlA base none W dv d
theorem rdV_boxG {g S b base:Nat} {w w':World} {A:Option Addr} {l:List Value} (h:RdV w A l) (hf:BoxF g S b w w') (hA:∀a,A=some a→base≤a.block) (hl:g<base∧S<base∧b<base):RdV w' A l:=by
 intro j v hj
 obtain⟨q,o,e,hc⟩:=h j v hj
 have h1:=hA _ e
 have h2:q<w.heap.size:=World.block_lt_of_cell? w _ hc
 have h3:base≤q:=h1
 exact⟨q,o,e,by rw [←hc];simp only [World.cell?,hf.2 q h2 (by omega) (by omega) (by omega)]⟩
theorem RgB.keep {base:Nat} {W W':World} {v:Value} {xs:List (List UInt8)} {d:List UInt8} (h:RgB base W v xs d) (hb:Below W.heap.size W W'):RgB base W' v xs d:=by
 obtain⟨A,c,vs,dv,h1,h2,h3,h4,h5,h6,h7⟩:=h
 exact⟨A,c,vs,dv,h1,h2,h3,h4.keep hb,fun a e=>⟨(h5 a e).1,kQb (h5 a e).2 hb.size⟩,fun i x hx=>by
  obtain⟨u,h8,h9⟩:=h6 i x hx
  exact⟨u,h8,h9.keep hb⟩,h7.keep hb⟩
theorem RgB.boxF {base:Nat} {W W':World} {v:Value} {xs:List (List UInt8)} {d:List UInt8} {g S b:Nat} (h:RgB base W v xs d) (hf:BoxF g S b W W') (hl:g<base∧S<base∧b<base):RgB base W' v xs d:=by
 obtain⟨A,c,vs,dv,h1,h2,h3,h4,h5,h6,h7⟩:=h
 exact⟨A,c,vs,dv,h1,h2,h3,rdV_boxG h4 hf (fun a e=>(h5 a e).1) hl,fun a e=>⟨(h5 a e).1,kQb (h5 a e).2 hf.1⟩,fun i x hx=>by
  obtain⟨u,h8,h9⟩:=h6 i x hx
  exact⟨u,h8,h9.boxF hf hl⟩,h7.boxF hf hl⟩
theorem RgB.low {base base':Nat} {W:World} {v:Value} {xs:List (List UInt8)} {d:List UInt8} (h:RgB base W v xs d) (hl:base'≤base):RgB base' W v xs d:=by
 have hs:∀{v:Value} {l:List UInt8},SlA base none W v l→SlA base' none W v l:=fun⟨A,c,h1,h2,h3,h4⟩=>⟨A,c,h1,h2,h3,fun a e=>⟨kQk hl (h4 a e).1,(h4 a e).2⟩⟩
 obtain⟨A,c,vs,dv,h1,h2,h3,h4,h5,h6,h7⟩:=h
 exact⟨A,c,vs,dv,h1,h2,h3,h4,fun a e=>⟨kQk hl (h5 a e).1,(h5 a e).2⟩,fun i x hx=>by
  obtain⟨u,h8,h9⟩:=h6 i x hx
  exact⟨u,h8,hs h9⟩,hs h7⟩
theorem cv_gen {W:World} {g n c:Nat} {C:Array Value} (hg:W.heap[g]?=some (.cells C 5 (0,0))) :
  ∃W',(convert 22 22 (.slice (some ⟨g,0,none⟩) n c)).run Tryz.prog W=.ok (.slice (some ⟨g,0,none⟩) n c) W'∧W'.heap[g]?=some (.cells C 5 (C.size,C.size+1))∧W.grownBy W' (some g)∧W'.heap.size=W.heap.size:=by
 have hsh:W.shape? g=some (5,C.size):=by
  unfold World.shape?
  rw[hg]
 refine⟨W.freeze ⟨g,C.size,none⟩ 1,?_,?_,?_,?_⟩
 ·simp [convert,run_underlying Tryz.underlying22,run_underlying Tryz.underlying5,markStringish,hsh]
 ·unfold World.freeze
  rw[if_neg (by decide)]
  simp [Array.getElem?_modify,hg]
 ·unfold World.freeze
  rw[if_neg (by decide)]
  exact⟨rfl,rfl,rfl,by simp,fun k hk hne=>by simp only [Array.getElem?_modify];rw [if_neg (fun e=>hne (by rw [e]))]⟩
 ·unfold World.freeze
  rw[if_neg (by decide)]
  simp
theorem qVa {g S b:Nat} {W W':World} (hg:W.grownBy W' (some S)):BoxF g S b W W':=⟨hg.size,fun k h1 _ h3 _=>hg.block k h1 (fun e=>h3 (Option.some.inj e))⟩
theorem qYx {g S b q o:Nat} {W W':World} {l:List Value} (h:W.rangeAt q o l) (hf:BoxF g S b W W') (hq:q≠g∧q≠S∧q≠b):W'.rangeAt q o l:=by
 intro j v hj
 have h1:=h j v hj
 have h2:q<W.heap.size:=World.block_lt_of_cell? W _ h1
 rw[←h1]
 simp only [World.cell?,hf.2 q h2 hq.1 hq.2.1 hq.2.2]
theorem RdM.boxF {g S b:Nat} {W W':World} {A:Option Addr} {zs:List Mem} (h:RdM W A zs) (hf:BoxF g S b W W') (hA:∀a,A=some a→a.block≠g∧a.block≠S∧a.block≠b):RdM W' A zs:=by
 intro j z hj
 obtain⟨h1,q,o,e,hr⟩:=h j z hj
 exact⟨h1,q,o,e,qYx hr hf (hA _ e)⟩
theorem qZm {g S b q:Nat} {W W':World} {o:Obj} (h:W.heap[q]?=some o) (hf:BoxF g S b W W') (hq:q≠g∧q≠S∧q≠b):W'.heap[q]?=some o:=(hf.2 q (qQe h) hq.1 hq.2.1 hq.2.2).trans h
theorem SlA.grown {base:Nat} {r:Option Nat} {W W':World} {v:Value} {l:List UInt8} {q:Nat} (h:SlA base r W v l) (hg:W.grownBy W' (some q)) (hq:q<base):SlA base r W' v l:=by
 obtain⟨A,c,h1,h2,h3,h4⟩:=h
 exact⟨A,c,h1,h2,h3.grown hg (fun q' e a ea=>by have:=Option.some.inj e;have:=(h4 a ea).1;omega),fun a e=>⟨(h4 a e).1,kQb (h4 a e).2.1 hg.size,(h4 a e).2.2⟩⟩
theorem RgB.grown {base:Nat} {W W':World} {v:Value} {xs:List (List UInt8)} {d:List UInt8} {q:Nat} (h:RgB base W v xs d) (hg:W.grownBy W' (some q)) (hq:q<base):RgB base W' v xs d:=by
 obtain⟨A,c,vs,dv,h1,h2,h3,h4,h5,h6,h7⟩:=h
 refine⟨A,c,vs,dv,h1,h2,h3,fun j u hj=>?_,fun a e=>⟨(h5 a e).1,kQb (h5 a e).2 hg.size⟩,fun i x hx=>?_,h7.grown hg hq⟩
 ·obtain⟨k,o,e,hc⟩:=h4 j u hj
  refine⟨k,o,e,hg.cell hc (fun e2=>?_)⟩
  have h8:base≤k:=(h5 _ e).1
  have:=Option.some.inj e2
  simp only at this
  omega
 ·obtain⟨u,h8,h9⟩:=h6 i x hx
  exact⟨u,h8,h9.grown hg hq⟩
structure RnW (w2:World) (g S b lo M:Nat) (xs:List (List UInt8)) (v:Value) (vs:List Value) (W:World):Prop where
 fr:BoxF g S b w2 W
 row:W.heap[M]?=some (.cells #[v,.slice none 0 0] 35 (0,0))
 own:OwnV W (M+1) 22 v vs
 vl:vs.length=xs.length
 xv:∀(j:Nat) (x:List UInt8),xs[j]?=some x→∃u,vs[j]?=some u∧SlA (M+1) v.ownBlock W u x
 mw:w2.heap.size≤M
 low:g<lo∧S<lo∧b<lo
 lom:lo≤w2.heap.size
section
variable {w2:World} {g S b lo M:Nat} {xs:List (List UInt8)} {v:Value} {vs:List Value} {W:World}
theorem RnW.keep {W':World} (h:RnW w2 g S b lo M xs v vs W) (hb:Below W.heap.size W W'):RnW w2 g S b lo M xs v vs W':=
 ⟨h.fr.below hb,qQb hb (qQe h.row) h.row,h.own.below hb,h.vl,fun j x hx=>by
  obtain⟨u,h1,h2⟩:=h.xv j x hx
  exact⟨u,h1,h2.keep hb⟩,h.mw,h.low,h.lom⟩
theorem BoxF.trans {W' W'':World} (h:BoxF g S b W W') (h2:BoxF g S b W' W''):BoxF g S b W W'':=
 ⟨kQk h.1 h2.1,fun k h3 h4 h5 h6=>(h2.2 k (kQb h3 h.1) h4 h5 h6).trans (h.2 k h3 h4 h5 h6)⟩
theorem RnW.boxF {W':World} (h:RnW w2 g S b lo M xs v vs W) (hf:BoxF g S b W W'):RnW w2 g S b lo M xs v vs W':=by
 have hm:=h.mw
 have hl:=h.low
 have hlo:=h.lom
 exact⟨h.fr.trans hf,qZm h.row hf ⟨by omega,by omega,by omega⟩,OwnV.boxF h.own hf ⟨by omega,by omega,by omega⟩,h.vl,fun j x hx=>by
  obtain⟨u,h1,h2⟩:=h.xv j x hx
  exact⟨u,h1,h2.boxF hf ⟨by omega,by omega,by omega⟩⟩,h.mw,h.low,h.lom⟩
theorem RnW.next (h:RnW w2 g S b lo M xs v vs W) {x:List UInt8} {A:Option Addr} {m c:Nat} (hx:RdB W A x) (hm:x.length=m) (hmc:m≤c) (hA:∀a,A=some a→M<a.block∧a.block<W.heap.size∧some a.block≠v.ownBlock) {W2 W3 W4:World} (h2:Below W.heap.size W W2)
  {v3:Value} (ho:OwnV W3 (M+1) 22 v3 (vs++[.slice A m c])) (hg:W2.grownBy W3 v.ownBlock) (hat:v3.ownBlock=v.ownBlock∨v3.ownBlock=some W2.heap.size)
  (hr:W4.heap[M]?=some (.cells #[v3,.slice none 0 0] 35 (0,0))) (hg4:W3.grownBy W4 (some M)):RnW w2 g S b lo M (xs++[x]) v3 (vs++[.slice A m c]) W4:=by
 have k2:=h.keep h2
 have hmw:=h.mw
 have hown:=h.own.lt
 have sx:SlA (M+1) v.ownBlock W2 (.slice A m c) x:=by
  subst hm
  exact⟨A,c,rfl,hmc,hx.keep h2,fun a e=>⟨by have:=(hA a e).1;omega,kQb (hA a e).2.1 h2.size,(hA a e).2.2⟩⟩
 refine⟨(k2.fr.grown hg (fun k e=>by have:=(hown k e).1;omega)).grown hg4 (fun k e=>by cases e;exact .inr (.inr (.inr hmw))),hr,?_,by simp [h.vl],?_,hmw,h.low,h.lom⟩
 ·refine OwnV.grown ho hg4 ?_
  rcases hq:v3.ownBlock with _|q
  ·exact .inl rfl
  ·refine .inr fun e=>?_
   have:=Option.some.inj e
   have:=(ho.lt q hq).1
   omega
 ·intro j y hy
  rcases Nat.lt_or_ge j xs.length with hj|hj
  ·rw [List.getElem?_append_left hj]at hy
   obtain⟨u,h5,h6⟩:=k2.xv j y hy
   exact⟨u,by rw [List.getElem?_append_left (by rw [h.vl];exact hj),h5],(h6.app hg hat).grown hg4 (by omega)⟩
  ·have:j=xs.length:=by
    have:=(List.getElem?_eq_some_iff.1 hy).1
    simp at this
    omega
   subst this
   rw[kQq (kQh _),Nat.sub_self]at hy
   simp only [kQg,Option.some.injEq]at hy
   subst hy
   exact⟨_,by rw [kQq (by rw [h.vl];exact kQh _),h.vl,Nat.sub_self];rfl,(sx.app hg hat).grown hg4 (by omega)⟩
theorem RnW.ring (h:RnW w2 g S b lo M xs v vs W) {W':World} {d:List UInt8} {A:Option Addr} {m c:Nat} (hb:BoxF g S b W W') (hd:RdB W' A d) (hm:d.length=m) (hmc:m≤c) (hA:∀a,A=some a→M<a.block∧a.block<W'.heap.size):RgB (M+1) W' (.agg #[v,.slice A m c]) xs d:=by
 have k:=h.boxF hb
 obtain⟨Av,cv,e,hr,hc,_,hab⟩:=k.own.read
 subst hm
 refine⟨Av,cv,vs,_,by rw [e,k.vl],by rw [←k.vl];exact hc,k.vl,hr,hab,fun i x hx=>?_,⟨A,c,rfl,hmc,hd,fun a e=>⟨(hA a e).1,(hA a e).2,by simp⟩⟩⟩
 obtain⟨u,h1,A2,c2,h3,h4,h5,h6⟩:=k.xv i x hx
 exact⟨u,h1,A2,c2,h3,h4,h5,fun a e=>⟨(h6 a e).1,(h6 a e).2.1,by simp⟩⟩
end
theorem build_wrap (W:World):(Instr.buildSlice 22 4 #[(0,.int .u8 119),(1,.int .u8 114),(2,.int .u8 97),(3,.int .u8 112)]).run Tryz.prog W=.ok (.slice (some ⟨W.heap.size,0,none⟩) 4 4) (W.alloc (.cells (W8 qZF) 5)):=by
 go_simp
 rfl
theorem build_dir (W:World):(Instr.buildSlice 22 3 #[(0,.int .u8 100),(1,.int .u8 105),(2,.int .u8 114)]).run Tryz.prog W=.ok (.slice (some ⟨W.heap.size,0,none⟩) 3 3) (W.alloc (.cells (W8 dirB) 5)):=by
 go_simp
 rfl
section
variable {o:Oper} {a:Act} {Q:Exit→Act→World→Prop} {K:Act→World→Prop} {W:World}
theorem wp_wrap (ho:o.op=.buildSlice 22 4 #[(0,.const (.int .u8 119)),(1,.const (.int .u8 114)),(2,.const (.int .u8 97)),(3,.const (.int .u8 112))]) (h:K (a.put o.dst (.slice (some ⟨W.heap.size,0,none⟩) 4 4)) (W.alloc (.cells (W8 qZF) 5))):o.wp Tryz.prog a W K Q:=by
 have h1:=build_wrap W
 unfold Oper.wp execOp
 simp only [ho,kQs,kQw,List.map_nil,Act.eval,Sem.run_bind,Sem.run_pure,h1,Result.andThen_ok]
 exact h
theorem wp_dir (ho:o.op=.buildSlice 22 3 #[(0,.const (.int .u8 100)),(1,.const (.int .u8 105)),(2,.const (.int .u8 114))]) (h:K (a.put o.dst (.slice (some ⟨W.heap.size,0,none⟩) 3 3)) (W.alloc (.cells (W8 dirB) 5))):o.wp Tryz.prog a W K Q:=by
 have h1:=build_dir W
 unfold Oper.wp execOp
 simp only [ho,kQs,kQw,List.map_nil,Act.eval,Sem.run_bind,Sem.run_pure,h1,Result.andThen_ok]
 exact h
theorem wp_cv (x:Operand) (ho:o.op=.convert 22 22 x) {g n c:Nat} {C:Array Value} (hg:W.heap[g]?=some (.cells C 5 (0,0))) (hx:a.eval x=.slice (some ⟨g,0,none⟩) n c)
  (h:∀W',W'.heap[g]?=some (.cells C 5 (C.size,C.size+1))→W.grownBy W' (some g)→W'.heap.size=W.heap.size→K (a.put o.dst (.slice (some ⟨g,0,none⟩) n c)) W'):o.wp Tryz.prog a W K Q:=by
 obtain⟨W',h1,h2,h3,h4⟩:=cv_gen (n:=n) (c:=c) hg
 unfold Oper.wp execOp
 simp only [ho,hx,h1,Sem.run_bind,Sem.run_pure,Result.andThen_ok]
 exact h W' h2 h3 h4
end
theorem qX5 {P:Program} {w:World} {g:Nat} {T:TypeId} {cells:Array Value} (hg:w.heap[g]?=some (.cells cells T (0,0))) {d:TypeDesc} (hu:P.underlying T=some d) (hr:d.isRow=true) (hi:(P.info? T).map (·.size)=some cells.size) :
  (((asAddr (.pointer (some ⟨g,0,none⟩))).run P w).andThen fun a w₁=>(loadVar T a).run P w₁)=.ok (.agg cells) w:=by
 simp only [asAddr,Sem.run_pure,Result.andThen_ok]
 have h:=run_loadVar_mid (P:=P) w g 0 T cells.toList _ (fun j v hj=>qQg hg (0+j) (by rw [Nat.zero_add];simpa using hj)) hu hr (by simpa using hi)
 simpa using h
theorem qZP {P:Program} {fn:Func} {R:Ending→World→Prop} {a:Act} {w:World} (g:Nat) (T:TypeId) (cells:Array Value) (v:Value) {p u:Tmp} (h:fn.results=#[.cell p T,.tmp u])
  (hp:a.tmps.getD p undef=.pointer (some ⟨g,0,none⟩)) (hu:a.tmps.getD u undef=v) (hd:a.defers=[]) (hg:w.heap[g]?=some (.cells cells T (0,0))) {d:TypeDesc} (ht:P.underlying T=some d) (hr:d.isRow=true) (hi:(P.info? T).map (·.size)=some cells.size)
  (hR:R (.returned (.tuple #[.agg cells,v])) w):bodyPost P fn R .ret a w:=by
 refine bodyPost_ret ?_ hd hR
 rw[results_cell_tmp h,hp,hu]
 have h1:=qX5 hg ht hr hi
 simp only [asAddr,Sem.run_pure,Result.andThen_ok]at h1 ⊢
 rw[h1]
 rfl
theorem qWb {P:Program} {fn:Func} {R:Ending→World→Prop} {a:Act} {w:World} (g g2:Nat) (T T2:TypeId) (cells cells2:Array Value) (v:Value) {p p2 u:Tmp} (h:fn.results=#[.cell p T,.cell p2 T2,.tmp u])
  (hp:a.tmps.getD p undef=.pointer (some ⟨g,0,none⟩)) (hp2:a.tmps.getD p2 undef=.pointer (some ⟨g2,0,none⟩)) (hu:a.tmps.getD u undef=v) (hd:a.defers=[])
  (hg:w.heap[g]?=some (.cells cells T (0,0))) {d:TypeDesc} (ht:P.underlying T=some d) (hr:d.isRow=true) (hi:(P.info? T).map (·.size)=some cells.size)
  (hg2:w.heap[g2]?=some (.cells cells2 T2 (0,0))) {d2:TypeDesc} (ht2:P.underlying T2=some d2) (hr2:d2.isRow=true) (hi2:(P.info? T2).map (·.size)=some cells2.size)
  (hR:R (.returned (.tuple #[.agg cells,.agg cells2,v])) w):bodyPost P fn R .ret a w:=by
 refine bodyPost_ret ?_ hd hR
 have h1:=qX5 hg ht hr hi
 have h2:=qX5 hg2 ht2 hr2 hi2
 simp only [asAddr,Sem.run_pure,Result.andThen_ok]at h1 h2
 simp only [results,h]
 simp only [Array.getD_eq_getD_getElem?]at hp hp2 hu
 simp [Sem.run_bind,Result.andThen,hp,hp2,hu,asAddr,h1,h2]
theorem qVk {W:World} {g i:Nat} {v:Value} {cur:Array Value} {t:TypeId} (hg:W.heap[g]?=some (.cells cur t (0,0))) :
  (W.setCell ⟨g,i,none⟩ v).heap[g]?=some (.cells (cur.setIfInBounds i v) t (0,0))∧W.grownBy (W.setCell ⟨g,i,none⟩ v) (some g)∧(W.setCell ⟨g,i,none⟩ v).heap.size=W.heap.size:=
 ⟨heap_setCell_same _ _ _ _ _ _ hg,qQF (World.grownBy.refl _ _) _ _,by simp [World.setCell]⟩
section
variable {o:Oper} {a:Act} {Q:Exit→Act→World→Prop} {K:Act→World→Prop} {W:World}
theorem qVg (x y:Operand) (ho:o.op=.store 33 x y) (g i:Nat) (A:Option Addr) (n c:Nat) (hx:a.eval x=.pointer (some ⟨g,i,none⟩)) (hy:a.eval y=.slice A n c) {cur:Array Value} {t:TypeId} (hg:W.heap[g]?=some (.cells cur t (0,0))) (hi:i<cur.size)
  (h:∀w',w'.heap[g]?=some (.cells (cur.setIfInBounds i (.slice A n c)) t (0,0))→W.grownBy w' (some g)→w'.heap.size=W.heap.size→K (a.put o.dst undef) w'):o.wp Tryz.prog a W K Q:=by
 have c0:=qQg hg i (Array.getElem?_eq_getElem hi)
 have f0:=qQz hg i
 obtain⟨h1,h2,h3⟩:=qVk (v:=.slice A n c) (i:=i) hg
 have hh:=h _ h1 h2 h3
 clear h h1 h2 h3 hg
 unfold Oper.wp execOp
 simp only [ho,hx,hy]
 go_simp
 exact hh
theorem qWx (x y:Operand) (ho:o.op=.store 22 x y) (g i:Nat) (A:Option Addr) (n c:Nat) (hx:a.eval x=.pointer (some ⟨g,i,none⟩)) (hy:a.eval y=.slice A n c) {cur:Array Value} {t:TypeId} (hg:W.heap[g]?=some (.cells cur t (0,0))) (hi:i<cur.size)
  (h:∀w',w'.heap[g]?=some (.cells (cur.setIfInBounds i (.slice A n c)) t (0,0))→W.grownBy w' (some g)→w'.heap.size=W.heap.size→K (a.put o.dst undef) w'):o.wp Tryz.prog a W K Q:=by
 have c0:=qQg hg i (Array.getElem?_eq_getElem hi)
 have f0:=qQz hg i
 obtain⟨h1,h2,h3⟩:=qVk (v:=.slice A n c) (i:=i) hg
 have hh:=h _ h1 h2 h3
 clear h h1 h2 h3 hg
 unfold Oper.wp execOp
 simp only [ho,hx,hy]
 go_simp
 exact hh
theorem qY1 (x y:Operand) (ho:o.op=.store 4 x y) (g i:Nat) (q:Bool) (hx:a.eval x=.pointer (some ⟨g,i,none⟩)) (hy:a.eval y=.bool q) {cur:Array Value} {t:TypeId} (hg:W.heap[g]?=some (.cells cur t (0,0))) (hi:i<cur.size)
  (h:∀w',w'.heap[g]?=some (.cells (cur.setIfInBounds i (.bool q)) t (0,0))→W.grownBy w' (some g)→w'.heap.size=W.heap.size→K (a.put o.dst undef) w'):o.wp Tryz.prog a W K Q:=by
 have c0:=qQg hg i (Array.getElem?_eq_getElem hi)
 have f0:=qQz hg i
 obtain⟨h1,h2,h3⟩:=qVk (v:=.bool q) (i:=i) hg
 have hh:=h _ h1 h2 h3
 clear h h1 h2 h3 hg
 unfold Oper.wp execOp
 simp only [ho,hx,hy]
 go_simp
 exact hh
theorem qVY (x:Operand) (ho:o.op=.buildSlice 33 1 #[(0,x)]) (A:Option Addr) (n c:Nat) (hx:a.eval x=.slice A n c)
  (h:K (a.put o.dst (.slice (some ⟨W.heap.size,0,none⟩) 1 1)) (W.alloc (.cells #[.slice A n c] 22))):o.wp Tryz.prog a W K Q:=by
 unfold Oper.wp execOp
 simp only [ho,hx,kQs,kQw,List.map_nil]
 go_simp
 exact h
end
end Go.Proofs.YtlocplkjokoknaaGreat
