/- Package inflate: which lengths may be: plain, and the walks of Lengths, of the program and of the reference. -/
import Derived.Test.YtigjingielnaoaaGreatDoorQAP
import Derived.Test.YtigjingielnaoaaGreatDoorQAS
set_option linter.unusedVariables false
set_option linter.unusedSimpArgs false
set_option linter.unusedSectionVars false
namespace Go.Proofs.YtigjingielnaoaaGreatDoor
open Go.RowKit
set_option maxRecDepth 100000 in
set_option maxHeartbeats 1600000 in
theorem JD (x:Option Addr) (cap:Nat) (l:List Int) (w:World) (hlen:l.length≤100000) (hI:IntsIn w x l.length l) :
 Calls Tryz.prog 251 #[.slice x l.length cap] w fun e w'=>e = .returned (.bool (yI l))∧Upd [] w w':=by
 have HK:=Lib.hid (kE x l.length cap l w (by omega) hI)
 have HI:=Lib.hid hI
 clear hI
 by_cases h1:zn l=1
 · have hl:=Lib.hid (show yI l=true by unfold yI; simp [h1])
   rw [h1] at HK
   clear h1
   go_enter Tryz.func251,Tryz.ntmps251
   go_wp2_with fail
   refine HK.out.mono ?_
   rintro e w1 ⟨rfl,hU1⟩
   go_wp2
   go_returns
   exact ⟨by rw [hl.out]; rfl,hU1⟩
 · have hl:=Lib.hid (show yI l=(decide (jb l=1)&&decide (vX l=1)) by unfold yI; simp [h1])
   obtain ⟨kk,hkk⟩ : ∃ kk,zn l=kk:=⟨_,rfl⟩
   rw [hkk] at HK h1
   have hkf:((kk:Int)==1)=false:=by simp; omega
   clear hkk h1
   go_enter Tryz.func251,Tryz.ntmps251
   go_wp2_with fail
   refine HK.out.mono ?_
   rintro e w1 ⟨rfl,hU1⟩
   go_wp2
   go_loopg [3,4,12] l.length (fun g s3 s4 s12 wr => ∃ i,i≤l.length∧g=l.length-i∧s12 = .int .i64 (i:Nat)∧s3 = .int .i64 (jb (l.take i):Nat)∧s4 = .int .i64 (vX (l.take i):Nat)∧w1=wr)
   case atStart=>exact ⟨0,by omega,rfl,rfl,rfl,rfl,rfl⟩
   case round =>
    obtain ⟨i,hin,rfl,rfl,rfl,rfl,rfl⟩:=hrel
    have hb1:=Zk (l.take i)
    have hb2:=zec (l.take i)
    have hb3:(l.take i).length≤100000:=by simp; omega
    by_cases hc:i<l.length
    · have hcz:(i:Int)<(l.length:Int):=by omega
      obtain ⟨b,off,rfl,c0,_,_⟩:=(HI.out.pure hU1).cell i hc
      have hu:=Zf hc
      have ho:=zbU hc
      generalize jb (l.take i)=u at *
      generalize vX (l.take i)=o at *
      generalize l[i]=y at *
      by_cases h1:y=1
      · subst h1
        rw [if_pos (by omega)] at hu
        rw [if_pos rfl] at ho
        have HU:=Lib.hid hu
        have HO:=Lib.hid ho
        clear hu ho
        go_wp2
        go_roundg (l.length-(i+1))
        case measure=>omega
        case rel=>exact ⟨i+1,by omega,rfl,by go_num,by rw [HU.out]; go_num,by rw [HO.out]; go_num,rfl⟩
      · have h1f:(y==1)=false:=by simpa using h1
        rw [if_neg h1] at ho
        have HO:=Lib.hid ho
        clear ho
        by_cases h0:0<y
        · rw [if_pos h0] at hu
          have HU:=Lib.hid hu
          clear hu h1
          go_wp2
          go_roundg (l.length-(i+1))
          case measure=>omega
          case rel=>exact ⟨i+1,by omega,rfl,by go_num,by rw [HU.out]; go_num,by rw [HO.out]; go_num,rfl⟩
        · rw [if_neg h0] at hu
          have HU:=Lib.hid hu
          clear hu h1
          go_wp2
          go_roundg (l.length-(i+1))
          case measure=>omega
          case rel=>exact ⟨i+1,by omega,rfl,by go_num,by rw [HU.out]; go_num,by rw [HO.out]; go_num,rfl⟩
    · have hcz : ¬ (i:Int)<(l.length:Int):=by omega
      have hi:i=l.length:=by omega
      rw [hi,List.take_length] at hb1 hb2 ⊢
      have hcz2 : ¬ (l.length:Int)<(l.length:Int):=by omega
      clear hi hc hcz
      generalize jb l=u at *
      generalize vX l=o at *
      by_cases hu:u=1
      · subst hu
        by_cases ho:o=1
        · subst ho
          go_wp2
          go_returns
          exact ⟨by rw [hl.out]; rfl,hU1⟩
        · have hof:((o:Int)==1)=false:=by simp; omega
          go_wp2
          go_returns
          exact ⟨by rw [hl.out]; simp [ho],hU1⟩
      · have huf:((u:Int)==1)=false:=by simp; omega
        go_wp2
        go_returns
        exact ⟨by rw [hl.out]; simp [hu],hU1⟩
theorem Qp (w:World):Calls Tryz.prog 248 #[] w fun e w'=>e = .returned (.slice (some ⟨w.heap.size,0,none⟩) 19 19)∧w.alloc (.cells (zy [16,17,18,0,8,7,9,6,10,5,11,4,12,3,13,2,14,1,15]).toArray 3)=w':=by
 go_enter Tryz.func248,Tryz.ntmps248
 go_wp2
 go_returns
 exact ⟨rfl,rfl⟩
end Go.Proofs.YtigjingielnaoaaGreatDoor
