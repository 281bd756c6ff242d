import Derived.Test.YtminfegoldgjpaaGreatDoorGSl
set_option linter.unusedVariables false
set_option linter.unusedSimpArgs false
set_option maxRecDepth 100000
namespace Go.Proofs.YtminfegoldgjpaaGreatDoor
open Go.RowKit Gw
def stepV (f0 f1 c : Nat) (v : Pv) (k : Int) (b : List UInt8) (cov : Nat) (n : Int) (F : List (Int × Int)) : Pv :=
 if k = 0 then (saveG f0 f1 c 64 v b cov).1 else if k = 1 then (loadG f0 f1 c 64 v).v else if k = 2 then v.arm n else v.re F
theorem stepV_inv {B f0 f1 c : Nat} {v : Pv} {k : Int} {b : List UInt8} {cov : Nat} {n : Int} {F : List (Int × Int)} (hok : v.m.ok) (hz : v.m.sz = 64) (hc : 2 ≤ c) (h0 : f0 + c ≤ v.m.dur.length) (h1 : f1 + c ≤ v.m.dur.length) (hap : f0 + c ≤ f1 ∨ f1 + c ≤ f0) (hB : B < 255)
   (i0 : InvS (SmQ B) v.m f0) (i1 : InvS (SmQ B) v.m f1) : InvS (SmQ (B + 1)) (stepV f0 f1 c v k b cov n F).m f0 ∧ InvS (SmQ (B + 1)) (stepV f0 f1 c v k b cov n F).m f1 := by
 have j0 := i0.mono (Nat.le_succ B)
 have j1 := i1.mono (Nat.le_succ B)
 unfold stepV
 split
 · by_cases hb : b.length + 64 ≤ c * 64
   · exact saveG_inv hok hz hc h0 h1 hap hb hB i0 i1
   · have e : saveG f0 f1 c 64 v b cov = (v, 3, hd0) := if_pos (by omega)
     rw [e]
     exact ⟨j0, j1⟩
 · split
   · rw [(loadG_ok f0 f1 c v hok hz (by omega) h0 h1).1]
     exact ⟨j0, j1⟩
   · split
     · have e : (v.arm n).m = v.m := by unfold Pv.arm; split <;> rfl
       rw [e]
       exact ⟨j0, j1⟩
     · exact ⟨inv_re j0 SmQ.tear F, inv_re j1 SmQ.tear F⟩
theorem inv_zero (f : Nat) (hf : f < 10) : InvS (SmQ 0) (dev0 10 64) f := by
 refine ⟨?_, fun x hx => by cases hx⟩
 have e : (dev0 10 64).dur.getD f [] = zeros 64 := by
   unfold dev0
   dsimp only
   rw [List.getD_eq_getElem?_getD, List.getElem?_replicate, if_pos hf]
   rfl
 rw [e]
 exact SmQ.zeros 0
theorem save_end {B f0 f1 c : Nat} {v : Pv} {b : List UInt8} {cov : Nat} (hv : v.ok) (hz : v.m.sz = 64) (hc : 2 ≤ c) (hc4 : c ≤ 4) (h0 : f0 + c ≤ v.m.dur.length) (h1 : f1 + c ≤ v.m.dur.length) (hap : f0 + c ≤ f1 ∨ f1 + c ≤ f0)
   (hb : b.length + 64 ≤ c * 64) (hcov : cov < 18446744073709551616) (hB : B < 255) (i0 : InvS (SmQ B) v.m f0) (i1 : InvS (SmQ B) v.m f1) (F : List (Int × Int)) :
   ((saveG f0 f1 c 64 v b cov).2.1 = 0 ∨ (saveG f0 f1 c 64 v b cov).2.1 = 60) ∧
   ((saveG f0 f1 c 64 v b cov).2.1 = 0 → (saveG f0 f1 c 64 v b cov).2.2 = nextH (foundM v.m f0 f1 c).1 cov b ∧
     (foundM ((saveG f0 f1 c 64 v b cov).1.m.crash F) f0 f1 c).1 = nextH (foundM v.m f0 f1 c).1 cov b ∧ (foundM ((saveG f0 f1 c 64 v b cov).1.m.crash F) f0 f1 c).2.1 = b) := by
 have hfs := found_small (c := c) hv.m hz (by omega) (by omega) i0 i1
 have hl := loadG_st f0 f1 c v hv (by omega)
 have hpv : ∀ x, (putG x c 64 (loadG f0 f1 c 64 v).v (64 : Nat) b).1.ok := fun x => (putG_st x c 64 _ _ b hl.1 (decide_eq_true ⟨by omega, by omega, by omega, by omega⟩)).1
 refine ⟨(saveG_st f0 f1 c v b cov hv hz hc h0 h1 hb (by omega) (by omega)).2, fun he => ?_⟩
 obtain ⟨q1, _⟩ := saveG_ok f0 f1 c v b cov hv hz hc h0 h1 hap hb (by omega) hcov (by omega) hl.1 hpv he
 obtain ⟨s1, s2, s3⟩ := save_found hv hz hc h0 h1 hap hb (by omega) hcov (by omega) hl.1 hpv he F
 rw [s1]
 exact ⟨q1, s2.trans q1, s3⟩
end Go.Proofs.YtminfegoldgjpaaGreatDoor
