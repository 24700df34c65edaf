/- barrowlaw13.AnchorPairs: the walk: it returns true. Conditions: the rows and the reasons lie in memory, the elements and anchors fit their kinds. -/
import Derived.Test.YtnpbbidiloahdaaDoorSPair13
namespace Go.Proofs.YtnpbbidiloahdaaDoor
set_option linter.unusedSimpArgs false
set_option linter.unusedVariables false
open Go Go.RowKit
variable {a : Nat → Addr}
theorem plOf_filter (l : List El) (k : Nat) : ∀ as_ : List Anc, ((plOf l as_).filter fun x => decide (x.p = (k : Int))).map Pl.a = as_.filter fun x => decide (whereOf l x = (k, true))
  | [] => rfl
  | x :: as_ => by
    have ih := plOf_filter l k as_
    unfold plOf at ih ⊢
    generalize hw : whereOf l x = wo
    obtain ⟨p, is⟩ := wo
    cases is
    · rw [List.filterMap_cons_none (by simp [hw]), ih, List.filter_cons_of_neg (by simp [hw])]
    · rw [List.filterMap_cons_some (b := ⟨x, p⟩) (by simp [hw])]
      by_cases hp : p = k
      · subst hp
        rw [List.filter_cons_of_pos (by simp), List.filter_cons_of_pos (by simp [hw]), List.map_cons, ih]
      · rw [List.filter_cons_of_neg (by simp; omega), List.filter_cons_of_neg (by simp [hw, hp]), ih]
theorem srt_is {l : List El} {as_ : List Anc} {X : List Pl} (h : StSort Pl.p (plOf l as_) X) : X.map Pl.a = srtOf l as_ (l.length + 1) := by
  have hk : ∀ x ∈ plOf l as_, 0 ≤ x.p ∧ x.p < ((l.length + 1 : Nat) : Int) := by
    intro x hx
    obtain ⟨y, _, hy⟩ := List.mem_filterMap.1 hx
    split at hy
    · injection hy with hy
      have h1 := whereOf_le (l := l) (x := y)
      have h2 := liveOf_le l
      rw [← hy]
      dsimp only
      omega
    · cases hy
  rw [StSort.one h (StSort.keys _ _ hk), List.map_flatMap]
  unfold srtOf
  congr 1
  funext k
  exact plOf_filter l k as_
set_option maxRecDepth 200000 in
set_option maxHeartbeats 16000000 in
theorem apairs_true (w : World) (A H : Option Addr) (n c q r : Nat) (ls : List El) (as_ : List Anc) (S S' : Nat → Prop) (hr : Row w S A n c ls) (hin : ∀ e ∈ ls, e.In) (ha : GRow w S H q r as_) (hai : ∀ e ∈ as_, e.id.In) (hs : Sents w S' a) :
    Calls Tryd.prog 3 #[.slice A n c, .slice H q r] w fun e w' => e = .returned (.bool true) ∧ Below w.heap.size w w' := by
  have HB := hid (begun13_any w A n c ls S hr hin)
  have Hs := hid hs
  have hqr := ha.2.1
  have hrm := ha.2.2.1
  unfold maxLen at hrm
  obtain ⟨qq, hqq⟩ : ∃ qq, qq = min q 30 := ⟨_, rfl⟩
  have Ha := hid (ha.take_ (show qq ≤ q by omega))
  have Hai := hid (fun (e : Anc) (he : e ∈ as_.take qq) => hai e (List.mem_of_mem_take he))
  have Hqq := hid hqq
  have hqq30 : qq ≤ 30 := by omega
  have hqqr : qq ≤ r := by omega
  clear hr hin hs ha hai hqq
  go_enter Tryd.func3, Tryd.ntmps3
  repeat' (first | (go_at_call 4; go_must ((with_reducible refine Calls.mono HB.out ?_); rintro _ w1 ⟨⟨mb, A1, c1_, X, n1, -, rfl, hM, hrow, hn1, hR, h80, hXin⟩, hb1⟩; dsimp only)) | (with_reducible refine stop_region 4 ?_) | go_values | go_skip | go_guarded | go_step | go_upon | go_back)
  refine Stop.go ?_
  rename_i K1 h1 K2 h2
  have H1 := hid h1
  have H2 := hid h2
  clear h1 h2
  have hz1 := hb1.size
  have HM := hid (And.intro hM hrow)
  have hal := Ha.out.1
  have Hb1 := hid hb1
  clear HB hR hXin hM hrow
  have key0 : ∀ {v0_ v2_ v3_ v4_ v7_ v8_ v9_ v10_ v11_ v12_ v13_ v14_ v15_ v16_ v17_ v18_ v19_ v20_ v21_ v22_ v23_ v24_ v25_ v26_ v27_ v28_ v29_ v30_ v31_ v32_ v33_ v34_ v35_ v36_ v37_ v38_ v39_ v40_ v41_ v42_ v43_ v44_ v45_ v46_ v47_ v48_ v49_ v50_ v51_ v52_ v53_ v54_ v55_ v56_ v57_ v58_ v59_ v60_ v61_ v62_ v63_ v64_ v65_ v66_ v67_ v68_ v69_ v70_ v71_ v72_ v73_ v74_ v75_ v76_ v77_ v78_ v79_ v80_ v81_ v82_ v83_ v84_ v85_ v86_ v87_ v88_ v89_ v90_ v91_ v92_ v93_ v94_ v95_ v96_ v97_ v98_ v99_ v100_ v101_ v102_ v103_ v104_ v105_ v106_ v107_ v108_ v109_ v110_ v111_ v112_ v113_ v114_ v115_ v116_ v117_ v118_ v119_ v120_ v121_ v122_ v123_ v124_ v125_ v126_ v127_ v128_ v129_ v130_ v131_ v132_ v133_ v134_ v135_ v136_ v137_ v138_ v139_ v140_ v141_ v142_ v143_ v144_ v145_ v146_ v147_ v148_ : Value}, K1 { tmps := #[v0_, .slice H qq r, v2_, v3_, v4_, .pointer (some ⟨mb, 0, none⟩), .slice A1 X.length c1_, v7_, v8_, v9_, v10_, v11_, v12_, v13_, v14_, v15_, v16_, v17_, v18_, v19_, v20_, v21_, v22_, v23_, v24_, v25_, v26_, v27_, v28_, v29_, v30_, v31_, v32_, v33_, v34_, v35_, v36_, v37_, v38_, v39_, v40_, v41_, v42_, v43_, v44_, v45_, v46_, v47_, v48_, v49_, v50_, v51_, v52_, v53_, v54_, v55_, v56_, v57_, v58_, v59_, v60_, v61_, v62_, v63_, v64_, v65_, v66_, v67_, v68_, v69_, v70_, v71_, v72_, v73_, v74_, v75_, v76_, v77_, v78_, v79_, v80_, v81_, v82_, v83_, v84_, v85_, v86_, v87_, v88_, v89_, v90_, v91_, v92_, v93_, v94_, v95_, v96_, v97_, v98_, v99_, v100_, v101_, v102_, v103_, v104_, v105_, v106_, v107_, v108_, v109_, v110_, v111_, v112_, v113_, v114_, v115_, v116_, v117_, v118_, v119_, v120_, v121_, v122_, v123_, v124_, v125_, v126_, v127_, v128_, v129_, v130_, v131_, v132_, v133_, v134_, v135_, v136_, v137_, v138_, v139_, v140_, v141_, v142_, v143_, v144_, v145_, v146_, v147_, v148_], defers := [] } w1 := by
    intro v0_ v2_ v3_ v4_ v7_ v8_ v9_ v10_ v11_ v12_ v13_ v14_ v15_ v16_ v17_ v18_ v19_ v20_ v21_ v22_ v23_ v24_ v25_ v26_ v27_ v28_ v29_ v30_ v31_ v32_ v33_ v34_ v35_ v36_ v37_ v38_ v39_ v40_ v41_ v42_ v43_ v44_ v45_ v46_ v47_ v48_ v49_ v50_ v51_ v52_ v53_ v54_ v55_ v56_ v57_ v58_ v59_ v60_ v61_ v62_ v63_ v64_ v65_ v66_ v67_ v68_ v69_ v70_ v71_ v72_ v73_ v74_ v75_ v76_ v77_ v78_ v79_ v80_ v81_ v82_ v83_ v84_ v85_ v86_ v87_ v88_ v89_ v90_ v91_ v92_ v93_ v94_ v95_ v96_ v97_ v98_ v99_ v100_ v101_ v102_ v103_ v104_ v105_ v106_ v107_ v108_ v109_ v110_ v111_ v112_ v113_ v114_ v115_ v116_ v117_ v118_ v119_ v120_ v121_ v122_ v123_ v124_ v125_ v126_ v127_ v128_ v129_ v130_ v131_ v132_ v133_ v134_ v135_ v136_ v137_ v138_ v139_ v140_ v141_ v142_ v143_ v144_ v145_ v146_ v147_ v148_
    refine H1.out _ _ ?_
    clear H1 H2 hqr
    repeat' (first | go_values | go_skip | go_guarded | go_step | go_upon | go_back)
    go_loopw [7] (fun i wr => ∃ k : Nat, i = .int .i64 k ∧ (k = 0 ∨ k + 1 ≤ qq) ∧ Below w1.heap.size w1 wr) (fun i _ => qq - (intOf i).toNat)
    case atStart => exact ⟨0, rfl, .inl rfl, Below.refl _ _⟩
    case round =>
      have hb1 := Hb1.out
      obtain ⟨k, rfl, hk, hbr⟩ := hrel
      obtain ⟨k1, hk1⟩ : ∃ k1, k1 = k + 1 := ⟨_, rfl⟩
      have hk1I : (k : Int) + 1 = (k1 : Int) := by omega
      by_cases hlt : k1 < qq
      · obtain ⟨b, off, x, hH, hSb, hbl, hxk, hcell⟩ := ((Ha.out.step hb1).step hbr).at_ (show k < qq by omega)
        obtain ⟨b', off', y, hH', -, -, hyk, hcell'⟩ := ((Ha.out.step hb1).step hbr).at_ hlt
        rw [hH] at hH'
        injection hH' with hH'
        injection hH' with hH1 hH2
        subst hH1 hH2 hH
        have c0 : wr.cell? ⟨b, off + k * 4, none⟩ = some (.bool x.front) := hcell 0 _ rfl
        have c1 : wr.cell? ⟨b, off + k * 4 + 1, none⟩ = some (.int .i64 x.id.epoch) := hcell 1 _ rfl
        have c2 : wr.cell? ⟨b, off + k * 4 + 2, none⟩ = some (.int .i64 x.id.rep) := hcell 2 _ rfl
        have c3 : wr.cell? ⟨b, off + k * 4 + 3, none⟩ = some (.int .i64 x.id.num) := hcell 3 _ rfl
        have d0 : wr.cell? ⟨b, off + k1 * 4, none⟩ = some (.bool y.front) := hcell' 0 _ rfl
        have d1 : wr.cell? ⟨b, off + k1 * 4 + 1, none⟩ = some (.int .i64 y.id.epoch) := hcell' 1 _ rfl
        have d2 : wr.cell? ⟨b, off + k1 * 4 + 2, none⟩ = some (.int .i64 y.id.rep) := hcell' 2 _ rfl
        have d3 : wr.cell? ⟨b, off + k1 * 4 + 3, none⟩ = some (.int .i64 y.id.num) := hcell' 3 _ rfl
        have hltI : (k1 : Int) < qq := by omega
        have hltI0 : (k : Int) < qq := by omega
        have hxin := Hai.out x (List.mem_of_getElem? hxk)
        have hyin := Hai.out y (List.mem_of_getElem? hyk)
        have HW1 := hid (r13where_any A1 X.length c1_ X _ wr x (HM.out.2.step hbr) (by omega))
        have HW2 := hid (fun W (hb : Below w1.heap.size w1 W) => r13where_any A1 X.length c1_ X _ W y (HM.out.2.step hb) (by omega))
        have HS := hid (fun W (hb : Below w1.heap.size w1 W) => span_any W _ mb X _ x y (HM.out.1.step hb) (by omega) hxin hyin)
        have HE := hid (fun W (hb : Below w1.heap.size w1 W) => same_any W _ mb X _ x y (HM.out.1.step hb) (by omega) hxin hyin)
        have Hk : Hid (k1 = k + 1 ∧ k1 < qq) := hid ⟨hk1, hlt⟩
        generalize hso : spanOf X x y = so at *
        generalize hsm : sameOf X x y = sm at *
        unfold spanOf at hso
        unfold sameOf at hsm
        generalize whereOf X x = wx at *
        generalize whereOf X y = wy at *
        obtain ⟨p, is⟩ := wx
        obtain ⟨q', it⟩ := wy
        obtain ⟨u, v, o⟩ := so
        dsimp only at HW1 HW2 HS HE hso hsm
        have Hso := hid hso
        have Hsm := hid hsm
        clear hcell hcell' hxk hyk hxin hyin hk hk1 hlt hso hsm
        repeat' (first | (go_at_call 5; go_must (first | ((with_reducible refine Calls.mono HW1.out ?_); rintro _ w2 ⟨rfl, hb2⟩; have B2 := bvia hbr hb2; replace c0 := kc (hb2) c0; replace c1 := kc (hb2) c1; replace c2 := kc (hb2) c2; replace c3 := kc (hb2) c3; replace d0 := kc (hb2) d0; replace d1 := kc (hb2) d1; replace d2 := kc (hb2) d2; replace d3 := kc (hb2) d3; replace hbl := Nat.lt_of_lt_of_le hbl (hb2).size; dsimp only) | ((with_reducible refine Calls.mono (HW2.out _ B2) ?_); rintro _ w3 ⟨rfl, hb3⟩; have B3 := bvia B2 hb3; replace c0 := kc (hb3) c0; replace c1 := kc (hb3) c1; replace c2 := kc (hb3) c2; replace c3 := kc (hb3) c3; replace d0 := kc (hb3) d0; replace d1 := kc (hb3) d1; replace d2 := kc (hb3) d2; replace d3 := kc (hb3) d3; replace hbl := Nat.lt_of_lt_of_le hbl (hb3).size; dsimp only))) | (with_reducible refine stop_region 11 ?_) | go_values | go_skip | go_guarded | go_step | go_upon | go_back)
        refine Stop.go ?_
        have B3d := B3.drew
        replace c0 := kc ((Below.refl w3.heap.size w3).drew) c0; replace c1 := kc ((Below.refl w3.heap.size w3).drew) c1; replace c2 := kc ((Below.refl w3.heap.size w3).drew) c2; replace c3 := kc ((Below.refl w3.heap.size w3).drew) c3; replace d0 := kc ((Below.refl w3.heap.size w3).drew) d0; replace d1 := kc ((Below.refl w3.heap.size w3).drew) d1; replace d2 := kc ((Below.refl w3.heap.size w3).drew) d2; replace d3 := kc ((Below.refl w3.heap.size w3).drew) d3; replace hbl := Nat.lt_of_lt_of_le hbl ((Below.refl w3.heap.size w3).drew).size
        clear HW1 HW2 hb2 hb3 B2 B3
        repeat' (first | ((with_reducible refine region_at 11 ?_); refine wp_region_order [(0, true, false), (1, true, false), (2, true, false), (3, true, false), (4, true, false), (5, true, false), (6, true, false), (7, true, false), (8, true, false), (9, true, false), (10, false, false), (11, true, false), (12, true, false), (13, true, false), (14, true, false), (15, true, false), (16, true, false), (17, true, false)] (by kernel_rfl) (by kernel_rfl) (by kernel_rfl) rfl rfl ?_) | (go_at_call 6; go_must ((with_reducible refine Calls.mono (HS.out _ B3d) ?_); rintro _ w4 ⟨rfl, hb4⟩; have B4 := bvia B3d hb4; replace c0 := kc (hb4) c0; replace c1 := kc (hb4) c1; replace c2 := kc (hb4) c2; replace c3 := kc (hb4) c3; replace d0 := kc (hb4) d0; replace d1 := kc (hb4) d1; replace d2 := kc (hb4) d2; replace d3 := kc (hb4) d3; replace hbl := Nat.lt_of_lt_of_le hbl (hb4).size; dsimp only)) | (with_reducible refine stop_region 13 ?_) | (with_reducible refine Keep.last ?_) | (with_reducible refine Keep.below (by assumption) ?_) | (with_reducible refine Keep.kept (by assumption) ?_) | (with_reducible refine Keep.alloc ?_) | (with_reducible refine Keep.same ?_) | ((with_reducible refine WpH.here ?_); first | (refine WpH.nil ?_; refine NoP.normal ?_) | (refine WpH.load (by rfl) (by rfl) (by go_simp; rfl) ?_; simp only [Act.put, List.setIfInBounds_toArray, List.set_cons_zero, List.set_cons_succ]) | (refine WpH.loadT (by rfl) (by rfl) (by go_simp; rfl) (by rintro _ _ ⟨⟩; exact ⟨_, _, _, _, _, _, by rfl, by assumption, by assumption⟩) ?_; simp only [Act.put, List.setIfInBounds_toArray, List.set_cons_zero, List.set_cons_succ]) | (refine WpH.pure (by rfl) (fun w_ => by go_simp; (try go_bits); rfl) ?_; simp only [Act.put, List.setIfInBounds_toArray, List.set_cons_zero, List.set_cons_succ]) | (refine WpH.wild1 (by rfl) (fun _ _ => ?_)) | (refine WpH.skip (by rfl) ?_; simp only [Act.put, List.setIfInBounds_toArray, List.set_cons_zero, List.set_cons_succ])) | ((with_reducible refine WpO.here ?_); first | (refine WpO.done ?_; first | refine NoP.normal ?_ | refine NoO.normal ?_) | (refine WpO.load (by rfl) (by rfl) (by go_simp; rfl) ?_; simp only [Act.put, List.setIfInBounds_toArray, List.set_cons_zero, List.set_cons_succ]) | (refine WpO.loadT (by rfl) (by rfl) (by go_simp; rfl) (by rintro _ _ ⟨⟩; exact ⟨_, _, _, _, _, _, by rfl, by assumption, by assumption⟩) ?_; simp only [Act.put, List.setIfInBounds_toArray, List.set_cons_zero, List.set_cons_succ]) | (refine WpO.pure (by rfl) (fun w_ => by go_simp; (try go_bits); rfl) ?_; simp only [Act.put, List.setIfInBounds_toArray, List.set_cons_zero, List.set_cons_succ]) | (refine WpO.skip (by rfl) ?_; simp only [Act.put, List.setIfInBounds_toArray, List.set_cons_zero, List.set_cons_succ]) | refine WpO.wild ?_ | refine WpO.two ?_ ?_ | refine WpO.three ?_ ?_ ?_) | ((with_reducible refine wildO.here ?_); first | (refine wildO.go (by rfl) (fun _ _ => ?_)) | (refine wildO.skip (by rfl) ?_; simp only [Act.put, List.setIfInBounds_toArray, List.set_cons_zero, List.set_cons_succ])) | go_values | go_skip | go_guarded | go_step | go_upon | go_back)
        refine Stop.go ?_
        have B4d := B4.drew
        replace c0 := kc ((Below.refl w4.heap.size w4).drew) c0; replace c1 := kc ((Below.refl w4.heap.size w4).drew) c1; replace c2 := kc ((Below.refl w4.heap.size w4).drew) c2; replace c3 := kc ((Below.refl w4.heap.size w4).drew) c3; replace d0 := kc ((Below.refl w4.heap.size w4).drew) d0; replace d1 := kc ((Below.refl w4.heap.size w4).drew) d1; replace d2 := kc ((Below.refl w4.heap.size w4).drew) d2; replace d3 := kc ((Below.refl w4.heap.size w4).drew) d3; replace hbl := Nat.lt_of_lt_of_le hbl ((Below.refl w4.heap.size w4).drew).size
        clear HS hb4 B4 B3d
        rename_i Ka ha Kb hb
        have HKa := hid ha
        have HKb := hid hb
        clear ha hb
        have key1 : ∀ {v4_ v31_ v32_ v33_ v34_ v35_ v36_ v37_ v38_ v39_ v40_ v41_ v42_ v43_ v44_ v45_ v46_ v47_ v48_ v49_ v50_ v51_ v52_ v53_ v54_ v55_ v56_ v57_ v58_ v59_ v60_ v61_ v62_ v63_ v64_ v65_ v66_ v67_ v68_ v69_ v70_ v71_ v72_ v73_ v74_ v75_ v76_ v77_ v78_ v79_ v80_ v81_ v82_ v83_ v84_ v85_ v86_ v87_ v88_ v89_ v90_ v91_ v92_ v93_ v94_ v95_ v96_ v97_ v98_ v99_ v100_ v101_ v102_ v103_ v104_ v105_ v106_ v107_ v108_ v109_ v110_ v111_ v112_ v113_ v114_ v115_ v116_ v117_ v118_ v119_ v120_ v121_ v122_ v123_ : Value} {lo hi : Int}, (is = true → it = true → lo = (u : Int) ∧ hi = (v : Int)) → Ka { tmps := #[v0_, .slice (some ⟨b, off, none⟩) qq r, v2_, v3_, v4_, .pointer (some ⟨mb, 0, none⟩), .slice A1 X.length c1_, .int .i64 k, .int .i64 p, .bool is, .int .i64 q', .bool it, .int .i64 u, .int .i64 v, .bool o, .int .i64 lo, .int .i64 hi, v17_, v18_, v19_, v20_, v21_, v22_, v23_, v24_, v25_, v26_, v27_, v28_, v29_, v30_, v31_, v32_, v33_, v34_, v35_, v36_, v37_, v38_, v39_, v40_, v41_, v42_, v43_, v44_, v45_, v46_, v47_, v48_, v49_, v50_, v51_, v52_, v53_, v54_, v55_, v56_, v57_, v58_, v59_, v60_, v61_, v62_, v63_, v64_, v65_, v66_, v67_, v68_, v69_, v70_, v71_, v72_, v73_, v74_, v75_, v76_, v77_, v78_, v79_, v80_, v81_, v82_, v83_, v84_, v85_, v86_, v87_, v88_, v89_, v90_, v91_, v92_, v93_, v94_, v95_, v96_, v97_, v98_, v99_, v100_, v101_, v102_, v103_, v104_, v105_, v106_, v107_, v108_, v109_, v110_, v111_, v112_, v113_, v114_, v115_, v116_, v117_, v118_, v119_, v120_, v121_, v122_, v123_, v124_, v125_, v126_, v127_, v128_, v129_, v130_, v131_, v132_, v133_, v134_, v135_, v136_, v137_, v138_, v139_, v140_, v141_, v142_, v143_, v144_, v145_, v146_, v147_, v148_], defers := [] } w4 := by
          intro v4_ v31_ v32_ v33_ v34_ v35_ v36_ v37_ v38_ v39_ v40_ v41_ v42_ v43_ v44_ v45_ v46_ v47_ v48_ v49_ v50_ v51_ v52_ v53_ v54_ v55_ v56_ v57_ v58_ v59_ v60_ v61_ v62_ v63_ v64_ v65_ v66_ v67_ v68_ v69_ v70_ v71_ v72_ v73_ v74_ v75_ v76_ v77_ v78_ v79_ v80_ v81_ v82_ v83_ v84_ v85_ v86_ v87_ v88_ v89_ v90_ v91_ v92_ v93_ v94_ v95_ v96_ v97_ v98_ v99_ v100_ v101_ v102_ v103_ v104_ v105_ v106_ v107_ v108_ v109_ v110_ v111_ v112_ v113_ v114_ v115_ v116_ v117_ v118_ v119_ v120_ v121_ v122_ v123_ lo hi hlh
          refine HKa.out _ _ ?_
          clear HKa HKb
          cases is
          · skip
            as_aux_lemma =>
              obtain ⟨hu, hv, ho⟩ : u = 0 ∧ v = 0 ∧ o = false := by
                have h := Hso.out
                simp only [Bool.false_eq_true, and_false, false_and, if_false, reduceIte, and_self] at h
                injection h with h1 h2
                injection h2 with h2 h3
                exact ⟨by omega, by omega, h3.symm⟩
              obtain rfl : sm = false := by have h := Hsm.out; simp at h; exact h
              subst hu hv ho
              clear hlh Hso Hsm
              repeat' (first | ((with_reducible refine region_at 17 ?_); refine wp_region_ordT (fun _ => True) (.one 0 true false (.one 1 true false (.one 2 true false (.one 3 true false (.one 4 true false (.one 5 true false (.one 6 true false (.one 7 true false (.one 8 true false (.one 9 true false (.one 10 true false (.one 11 true false (.one 12 true false (.one 13 true false (.one 14 true false (.one 15 true false (.one 16 true false (.one 17 true false (.one 18 true false (.one 19 true false (.one 20 true false (.one 21 true false (.one 22 true false (.one 23 true false (.one 24 true false (.one 25 true false (.one 26 true false (.one 28 true false (.one 27 false false (.one 29 true false (.one 30 true false (.one 31 true false (.one 32 true false (.one 33 true false (.one 34 true false (.one 35 true false (.one 36 true false (.one 37 true false (.one 38 true false .nil))))))))))))))))))))))))))))))))))))))) (by kernel_rfl) (by kernel_rfl) (by kernel_rfl) rfl rfl ?_) | (go_at_call 7; go_must ((with_reducible refine Calls.mono (HE.out _ B4d) ?_); rintro _ w5 ⟨rfl, hb5⟩; dsimp only)) | (with_reducible refine Keep.last ?_) | (with_reducible refine Keep.below (by assumption) ?_) | (with_reducible refine Keep.kept (by assumption) ?_) | (with_reducible refine Keep.alloc ?_) | (with_reducible refine Keep.same ?_) | ((with_reducible refine WpH.here ?_); first | (refine WpH.nil ?_; refine NoP.normal ?_) | (refine WpH.load (by rfl) (by rfl) (by go_simp; rfl) ?_; simp only [Act.put, List.setIfInBounds_toArray, List.set_cons_zero, List.set_cons_succ]) | (refine WpH.loadT (by rfl) (by rfl) (by go_simp; rfl) (by rintro _ _ ⟨⟩; exact ⟨_, _, _, _, _, _, by rfl, by assumption, by assumption⟩) ?_; simp only [Act.put, List.setIfInBounds_toArray, List.set_cons_zero, List.set_cons_succ]) | (refine WpH.pure (by rfl) (fun w_ => by go_simp; (try go_bits); rfl) ?_; simp only [Act.put, List.setIfInBounds_toArray, List.set_cons_zero, List.set_cons_succ]) | (refine WpH.wild1 (by rfl) (fun _ _ => ?_)) | (refine WpH.skip (by rfl) ?_; simp only [Act.put, List.setIfInBounds_toArray, List.set_cons_zero, List.set_cons_succ])) | ((with_reducible refine WpO.here ?_); first | (refine WpO.done ?_; first | refine NoP.normal ?_ | refine NoO.normal ?_) | (refine WpO.load (by rfl) (by rfl) (by go_simp; rfl) ?_; simp only [Act.put, List.setIfInBounds_toArray, List.set_cons_zero, List.set_cons_succ]) | (refine WpO.loadT (by rfl) (by rfl) (by go_simp; rfl) (by rintro _ _ ⟨⟩; exact ⟨_, _, _, _, _, _, by rfl, by assumption, by assumption⟩) ?_; simp only [Act.put, List.setIfInBounds_toArray, List.set_cons_zero, List.set_cons_succ]) | (refine WpO.pure (by rfl) (fun w_ => by go_simp; (try go_bits); rfl) ?_; simp only [Act.put, List.setIfInBounds_toArray, List.set_cons_zero, List.set_cons_succ]) | (refine WpO.skip (by rfl) ?_; simp only [Act.put, List.setIfInBounds_toArray, List.set_cons_zero, List.set_cons_succ]) | refine WpO.wild ?_ | refine WpO.two ?_ ?_ | refine WpO.three ?_ ?_ ?_) | ((with_reducible refine wildO.here ?_); first | (refine wildO.go (by rfl) (fun _ _ => ?_)) | (refine wildO.skip (by rfl) ?_; simp only [Act.put, List.setIfInBounds_toArray, List.set_cons_zero, List.set_cons_succ])) | go_values | go_skip | go_guarded | go_step | go_upon | go_back)
              skip
              go_roundw
              case rel => exact ⟨k1, by go_num, by have := Hk.out; omega, bvia B4d hb5⟩
              case measure => have := Hk.out; simp [intOf]; omega
          · skip
            cases it
            · skip
              as_aux_lemma =>
                obtain ⟨hu, hv, ho⟩ : u = 0 ∧ v = 0 ∧ o = false := by
                  have h := Hso.out
                  simp only [Bool.false_eq_true, and_false, false_and, if_false, reduceIte, and_self] at h
                  injection h with h1 h2
                  injection h2 with h2 h3
                  exact ⟨by omega, by omega, h3.symm⟩
                obtain rfl : sm = false := by have h := Hsm.out; simp at h; exact h
                subst hu hv ho
                clear hlh Hso Hsm
                repeat' (first | ((with_reducible refine region_at 17 ?_); refine wp_region_ordT (fun _ => True) (.one 0 true false (.one 1 true false (.one 2 true false (.one 3 true false (.one 4 true false (.one 5 true false (.one 6 true false (.one 7 true false (.one 8 true false (.one 9 true false (.one 10 true false (.one 11 true false (.one 12 true false (.one 13 true false (.one 14 true false (.one 15 true false (.one 16 true false (.one 17 true false (.one 18 true false (.one 19 true false (.one 20 true false (.one 21 true false (.one 22 true false (.one 23 true false (.one 24 true false (.one 25 true false (.one 26 true false (.one 28 true false (.one 27 false false (.one 29 true false (.one 30 true false (.one 31 true false (.one 32 true false (.one 33 true false (.one 34 true false (.one 35 true false (.one 36 true false (.one 37 true false (.one 38 true false .nil))))))))))))))))))))))))))))))))))))))) (by kernel_rfl) (by kernel_rfl) (by kernel_rfl) rfl rfl ?_) | (go_at_call 7; go_must ((with_reducible refine Calls.mono (HE.out _ B4d) ?_); rintro _ w5 ⟨rfl, hb5⟩; dsimp only)) | (with_reducible refine Keep.last ?_) | (with_reducible refine Keep.below (by assumption) ?_) | (with_reducible refine Keep.kept (by assumption) ?_) | (with_reducible refine Keep.alloc ?_) | (with_reducible refine Keep.same ?_) | ((with_reducible refine WpH.here ?_); first | (refine WpH.nil ?_; refine NoP.normal ?_) | (refine WpH.load (by rfl) (by rfl) (by go_simp; rfl) ?_; simp only [Act.put, List.setIfInBounds_toArray, List.set_cons_zero, List.set_cons_succ]) | (refine WpH.loadT (by rfl) (by rfl) (by go_simp; rfl) (by rintro _ _ ⟨⟩; exact ⟨_, _, _, _, _, _, by rfl, by assumption, by assumption⟩) ?_; simp only [Act.put, List.setIfInBounds_toArray, List.set_cons_zero, List.set_cons_succ]) | (refine WpH.pure (by rfl) (fun w_ => by go_simp; (try go_bits); rfl) ?_; simp only [Act.put, List.setIfInBounds_toArray, List.set_cons_zero, List.set_cons_succ]) | (refine WpH.wild1 (by rfl) (fun _ _ => ?_)) | (refine WpH.skip (by rfl) ?_; simp only [Act.put, List.setIfInBounds_toArray, List.set_cons_zero, List.set_cons_succ])) | ((with_reducible refine WpO.here ?_); first | (refine WpO.done ?_; first | refine NoP.normal ?_ | refine NoO.normal ?_) | (refine WpO.load (by rfl) (by rfl) (by go_simp; rfl) ?_; simp only [Act.put, List.setIfInBounds_toArray, List.set_cons_zero, List.set_cons_succ]) | (refine WpO.loadT (by rfl) (by rfl) (by go_simp; rfl) (by rintro _ _ ⟨⟩; exact ⟨_, _, _, _, _, _, by rfl, by assumption, by assumption⟩) ?_; simp only [Act.put, List.setIfInBounds_toArray, List.set_cons_zero, List.set_cons_succ]) | (refine WpO.pure (by rfl) (fun w_ => by go_simp; (try go_bits); rfl) ?_; simp only [Act.put, List.setIfInBounds_toArray, List.set_cons_zero, List.set_cons_succ]) | (refine WpO.skip (by rfl) ?_; simp only [Act.put, List.setIfInBounds_toArray, List.set_cons_zero, List.set_cons_succ]) | refine WpO.wild ?_ | refine WpO.two ?_ ?_ | refine WpO.three ?_ ?_ ?_) | ((with_reducible refine wildO.here ?_); first | (refine wildO.go (by rfl) (fun _ _ => ?_)) | (refine wildO.skip (by rfl) ?_; simp only [Act.put, List.setIfInBounds_toArray, List.set_cons_zero, List.set_cons_succ])) | go_values | go_skip | go_guarded | go_step | go_upon | go_back)
                skip
                go_roundw
                case rel => exact ⟨k1, by go_num, by have := Hk.out; omega, bvia B4d hb5⟩
                case measure => have := Hk.out; simp [intOf]; omega
            · skip
              as_aux_lemma =>
                obtain ⟨hu, hv, ho⟩ : (u : Int) = min (p : Int) q' ∧ (v : Int) = max (p : Int) q' ∧ o = true := by
                  have h := Hso.out
                  simp only [and_self, if_true, reduceIte] at h
                  injection h with h1 h2
                  injection h2 with h2 h3
                  exact ⟨by omega, by omega, h3.symm⟩
                obtain ⟨rfl, rfl⟩ := hlh rfl rfl
                obtain rfl : sm = decide (p = q') := by have h := Hsm.out; simp at h; simp [h]
                rw [show decide (p = q') = ((p : Int) == (q' : Int)) from (beq_int p q').symm] at HE
                subst ho
                clear hu hv hlh Hso Hsm
                repeat' (first | ((with_reducible refine region_at 17 ?_); refine wp_region_ordT (fun _ => True) (.one 0 true false (.one 1 true false (.one 2 true false (.one 3 true false (.one 4 true false (.one 5 true false (.one 6 true false (.one 7 true false (.one 8 true false (.one 9 true false (.one 10 true false (.one 11 true false (.one 12 true false (.one 13 true false (.one 14 true false (.one 15 true false (.one 16 true false (.one 17 true false (.one 18 true false (.one 19 true false (.one 20 true false (.one 21 true false (.one 22 true false (.one 23 true false (.one 24 true false (.one 25 true false (.one 26 true false (.one 28 true false (.one 27 false false (.one 29 true false (.one 30 true false (.one 31 true false (.one 32 true false (.one 33 true false (.one 34 true false (.one 35 true false (.one 36 true false (.one 37 true false (.one 38 true false .nil))))))))))))))))))))))))))))))))))))))) (by kernel_rfl) (by kernel_rfl) (by kernel_rfl) rfl rfl ?_) | (go_at_call 7; go_must ((with_reducible refine Calls.mono (HE.out _ B4d) ?_); rintro _ w5 ⟨rfl, hb5⟩; dsimp only)) | (with_reducible refine Keep.last ?_) | (with_reducible refine Keep.below (by assumption) ?_) | (with_reducible refine Keep.kept (by assumption) ?_) | (with_reducible refine Keep.alloc ?_) | (with_reducible refine Keep.same ?_) | ((with_reducible refine WpH.here ?_); first | (refine WpH.nil ?_; refine NoP.normal ?_) | (refine WpH.load (by rfl) (by rfl) (by go_simp; rfl) ?_; simp only [Act.put, List.setIfInBounds_toArray, List.set_cons_zero, List.set_cons_succ]) | (refine WpH.loadT (by rfl) (by rfl) (by go_simp; rfl) (by rintro _ _ ⟨⟩; exact ⟨_, _, _, _, _, _, by rfl, by assumption, by assumption⟩) ?_; simp only [Act.put, List.setIfInBounds_toArray, List.set_cons_zero, List.set_cons_succ]) | (refine WpH.pure (by rfl) (fun w_ => by go_simp; (try go_bits); rfl) ?_; simp only [Act.put, List.setIfInBounds_toArray, List.set_cons_zero, List.set_cons_succ]) | (refine WpH.wild1 (by rfl) (fun _ _ => ?_)) | (refine WpH.skip (by rfl) ?_; simp only [Act.put, List.setIfInBounds_toArray, List.set_cons_zero, List.set_cons_succ])) | ((with_reducible refine WpO.here ?_); first | (refine WpO.done ?_; first | refine NoP.normal ?_ | refine NoO.normal ?_) | (refine WpO.load (by rfl) (by rfl) (by go_simp; rfl) ?_; simp only [Act.put, List.setIfInBounds_toArray, List.set_cons_zero, List.set_cons_succ]) | (refine WpO.loadT (by rfl) (by rfl) (by go_simp; rfl) (by rintro _ _ ⟨⟩; exact ⟨_, _, _, _, _, _, by rfl, by assumption, by assumption⟩) ?_; simp only [Act.put, List.setIfInBounds_toArray, List.set_cons_zero, List.set_cons_succ]) | (refine WpO.pure (by rfl) (fun w_ => by go_simp; (try go_bits); rfl) ?_; simp only [Act.put, List.setIfInBounds_toArray, List.set_cons_zero, List.set_cons_succ]) | (refine WpO.skip (by rfl) ?_; simp only [Act.put, List.setIfInBounds_toArray, List.set_cons_zero, List.set_cons_succ]) | refine WpO.wild ?_ | refine WpO.two ?_ ?_ | refine WpO.three ?_ ?_ ?_) | ((with_reducible refine wildO.here ?_); first | (refine wildO.go (by rfl) (fun _ _ => ?_)) | (refine wildO.skip (by rfl) ?_; simp only [Act.put, List.setIfInBounds_toArray, List.set_cons_zero, List.set_cons_succ])) | go_values | go_skip | go_guarded | go_step | go_upon | go_back)
                skip
                go_roundw
                case rel => exact ⟨k1, by go_num, by have := Hk.out; omega, bvia B4d hb5⟩
                case measure => have := Hk.out; simp [intOf]; omega
        have hb := HKb.out
        clear HE c0 c1 c2 c3 d0 d1 d2 d3
        rcases Nat.lt_or_ge q' p with hpq | hpq
        · have hpqI : (p : Int) > q' := by omega
          have hlh : is = true → it = true → (q' : Int) = (u : Int) ∧ (p : Int) = (v : Int) := by
            intro h1 h2
            have h := Hso.out
            rw [if_pos ⟨h1, h2⟩] at h
            injection h with h1 h2
            injection h2 with h2 h3
            omega
          have Hlh := hid hlh
          have HK := hid (fun a w h => hb a w h)
          clear hlh Hso
          repeat' (first | (with_reducible exact key1 Hlh.out) | (with_reducible refine Keep.last ?_) | (with_reducible refine Keep.below (by assumption) ?_) | (with_reducible refine Keep.kept (by assumption) ?_) | (with_reducible refine Keep.alloc ?_) | (with_reducible refine Keep.same ?_) | ((with_reducible refine WpH.here ?_); first | (refine WpH.nil ?_; refine NoP.normal ?_) | (refine WpH.load (by rfl) (by rfl) (by go_simp; rfl) ?_; simp only [Act.put, List.setIfInBounds_toArray, List.set_cons_zero, List.set_cons_succ]) | (refine WpH.loadT (by rfl) (by rfl) (by go_simp; rfl) (by rintro _ _ ⟨⟩; exact ⟨_, _, _, _, _, _, by rfl, by assumption, by assumption⟩) ?_; simp only [Act.put, List.setIfInBounds_toArray, List.set_cons_zero, List.set_cons_succ]) | (refine WpH.pure (by rfl) (fun w_ => by go_simp; (try go_bits); rfl) ?_; simp only [Act.put, List.setIfInBounds_toArray, List.set_cons_zero, List.set_cons_succ]) | (refine WpH.wild1 (by rfl) (fun _ _ => ?_)) | (refine WpH.skip (by rfl) ?_; simp only [Act.put, List.setIfInBounds_toArray, List.set_cons_zero, List.set_cons_succ])) | ((with_reducible refine WpO.here ?_); first | (refine WpO.done ?_; first | refine NoP.normal ?_ | refine NoO.normal ?_) | (refine WpO.load (by rfl) (by rfl) (by go_simp; rfl) ?_; simp only [Act.put, List.setIfInBounds_toArray, List.set_cons_zero, List.set_cons_succ]) | (refine WpO.loadT (by rfl) (by rfl) (by go_simp; rfl) (by rintro _ _ ⟨⟩; exact ⟨_, _, _, _, _, _, by rfl, by assumption, by assumption⟩) ?_; simp only [Act.put, List.setIfInBounds_toArray, List.set_cons_zero, List.set_cons_succ]) | (refine WpO.pure (by rfl) (fun w_ => by go_simp; (try go_bits); rfl) ?_; simp only [Act.put, List.setIfInBounds_toArray, List.set_cons_zero, List.set_cons_succ]) | (refine WpO.skip (by rfl) ?_; simp only [Act.put, List.setIfInBounds_toArray, List.set_cons_zero, List.set_cons_succ]) | refine WpO.wild ?_ | refine WpO.two ?_ ?_ | refine WpO.three ?_ ?_ ?_) | ((with_reducible refine wildO.here ?_); first | (refine wildO.go (by rfl) (fun _ _ => ?_)) | (refine wildO.skip (by rfl) ?_; simp only [Act.put, List.setIfInBounds_toArray, List.set_cons_zero, List.set_cons_succ])) | go_values | go_skip | go_guarded | go_step | go_upon | go_back)
        · have hpqI : ¬ (p : Int) > q' := by omega
          have hlh : is = true → it = true → (p : Int) = (u : Int) ∧ (q' : Int) = (v : Int) := by
            intro h1 h2
            have h := Hso.out
            rw [if_pos ⟨h1, h2⟩] at h
            injection h with h1 h2
            injection h2 with h2 h3
            omega
          have Hlh := hid hlh
          clear hlh Hso
          repeat' (first | (with_reducible exact key1 Hlh.out) | (with_reducible refine Keep.last ?_) | (with_reducible refine Keep.below (by assumption) ?_) | (with_reducible refine Keep.kept (by assumption) ?_) | (with_reducible refine Keep.alloc ?_) | (with_reducible refine Keep.same ?_) | ((with_reducible refine WpH.here ?_); first | (refine WpH.nil ?_; refine NoP.normal ?_) | (refine WpH.load (by rfl) (by rfl) (by go_simp; rfl) ?_; simp only [Act.put, List.setIfInBounds_toArray, List.set_cons_zero, List.set_cons_succ]) | (refine WpH.loadT (by rfl) (by rfl) (by go_simp; rfl) (by rintro _ _ ⟨⟩; exact ⟨_, _, _, _, _, _, by rfl, by assumption, by assumption⟩) ?_; simp only [Act.put, List.setIfInBounds_toArray, List.set_cons_zero, List.set_cons_succ]) | (refine WpH.pure (by rfl) (fun w_ => by go_simp; (try go_bits); rfl) ?_; simp only [Act.put, List.setIfInBounds_toArray, List.set_cons_zero, List.set_cons_succ]) | (refine WpH.wild1 (by rfl) (fun _ _ => ?_)) | (refine WpH.skip (by rfl) ?_; simp only [Act.put, List.setIfInBounds_toArray, List.set_cons_zero, List.set_cons_succ])) | ((with_reducible refine WpO.here ?_); first | (refine WpO.done ?_; first | refine NoP.normal ?_ | refine NoO.normal ?_) | (refine WpO.load (by rfl) (by rfl) (by go_simp; rfl) ?_; simp only [Act.put, List.setIfInBounds_toArray, List.set_cons_zero, List.set_cons_succ]) | (refine WpO.loadT (by rfl) (by rfl) (by go_simp; rfl) (by rintro _ _ ⟨⟩; exact ⟨_, _, _, _, _, _, by rfl, by assumption, by assumption⟩) ?_; simp only [Act.put, List.setIfInBounds_toArray, List.set_cons_zero, List.set_cons_succ]) | (refine WpO.pure (by rfl) (fun w_ => by go_simp; (try go_bits); rfl) ?_; simp only [Act.put, List.setIfInBounds_toArray, List.set_cons_zero, List.set_cons_succ]) | (refine WpO.skip (by rfl) ?_; simp only [Act.put, List.setIfInBounds_toArray, List.set_cons_zero, List.set_cons_succ]) | refine WpO.wild ?_ | refine WpO.two ?_ ?_ | refine WpO.three ?_ ?_ ?_) | ((with_reducible refine wildO.here ?_); first | (refine wildO.go (by rfl) (fun _ _ => ?_)) | (refine wildO.skip (by rfl) ?_; simp only [Act.put, List.setIfInBounds_toArray, List.set_cons_zero, List.set_cons_succ])) | go_values | go_skip | go_guarded | go_step | go_upon | go_back)
      · have hltI : ¬ (k1 : Int) < qq := by omega
        have hkB : k ≤ 30 := by omega
        have hk1B : k1 ≤ 31 := by omega
        have Hk1 := hid (And.intro hk hk1)
        clear hk1 hlt
        have hb1r := bvia hb1 hbr
        have e1 := balloc (o := .cells #[] 32) (Below.refl _ wr)
        have hHr := hid (((Ha.out.step hb1).step hbr).step e1)
        have hGe := hid (gown_empty 32 wr)
        clear hk
        repeat' (first | ((with_reducible refine app_ancs_here ?_); go_must (refine wp_append_ancs0 wr.heap.size _ H 0 qq r (as_.take qq) _ (by rfl) (by rfl) hGe.out hHr.out e1.size (by omega) ?_; intro A4 c4 w4 hown4 hb4 hsm4 hz4)) | (with_reducible refine stop_region 20 ?_) | (with_reducible refine Keep.last ?_) | (with_reducible refine Keep.below (by assumption) ?_) | (with_reducible refine Keep.kept (by assumption) ?_) | (with_reducible refine Keep.alloc ?_) | (with_reducible refine Keep.same ?_) | ((with_reducible refine WpH.here ?_); first | (refine WpH.nil ?_; refine NoP.normal ?_) | (refine WpH.load (by rfl) (by rfl) (by go_simp; rfl) ?_; simp only [Act.put, List.setIfInBounds_toArray, List.set_cons_zero, List.set_cons_succ]) | (refine WpH.loadT (by rfl) (by rfl) (by go_simp; rfl) (by rintro _ _ ⟨⟩; exact ⟨_, _, _, _, _, _, by rfl, by assumption, by assumption⟩) ?_; simp only [Act.put, List.setIfInBounds_toArray, List.set_cons_zero, List.set_cons_succ]) | (refine WpH.pure (by rfl) (fun w_ => by go_simp; (try go_bits); rfl) ?_; simp only [Act.put, List.setIfInBounds_toArray, List.set_cons_zero, List.set_cons_succ]) | (refine WpH.wild1 (by rfl) (fun _ _ => ?_)) | (refine WpH.skip (by rfl) ?_; simp only [Act.put, List.setIfInBounds_toArray, List.set_cons_zero, List.set_cons_succ])) | ((with_reducible refine WpO.here ?_); first | (refine WpO.done ?_; first | refine NoP.normal ?_ | refine NoO.normal ?_) | (refine WpO.load (by rfl) (by rfl) (by go_simp; rfl) ?_; simp only [Act.put, List.setIfInBounds_toArray, List.set_cons_zero, List.set_cons_succ]) | (refine WpO.loadT (by rfl) (by rfl) (by go_simp; rfl) (by rintro _ _ ⟨⟩; exact ⟨_, _, _, _, _, _, by rfl, by assumption, by assumption⟩) ?_; simp only [Act.put, List.setIfInBounds_toArray, List.set_cons_zero, List.set_cons_succ]) | (refine WpO.pure (by rfl) (fun w_ => by go_simp; (try go_bits); rfl) ?_; simp only [Act.put, List.setIfInBounds_toArray, List.set_cons_zero, List.set_cons_succ]) | (refine WpO.skip (by rfl) ?_; simp only [Act.put, List.setIfInBounds_toArray, List.set_cons_zero, List.set_cons_succ]) | refine WpO.wild ?_ | refine WpO.two ?_ ?_ | refine WpO.three ?_ ?_ ?_) | ((with_reducible refine wildO.here ?_); first | (refine wildO.go (by rfl) (fun _ _ => ?_)) | (refine wildO.skip (by rfl) ?_; simp only [Act.put, List.setIfInBounds_toArray, List.set_cons_zero, List.set_cons_succ])) | go_values | go_skip | go_guarded | go_step | go_upon | go_back)
        refine Stop.go ?_
        have B4 := (bvia hbr e1).trans (hb4.mono hbr.size)
        have HG4 := hid (fun W (hb : Below w4.heap.size w4 W) => ((hown4.step hb).row (S := fun _ => True) fun _ _ _ => trivial : GRow W (fun _ => True) A4 qq c4 (as_.take qq)))
        have HG1 := hid (fun W (hb : Below w1.heap.size w1 W) => (Ha.out.step hb1).step hb)
        have HSo := hid (asort_any w4 _ _ mb X _ qq c4 A4 (as_.take qq) (HM.out.1.step B4) (by omega) (HG4.out w4 (Below.refl _ _)) (by omega) Hai.out)
        have HRs := hid (fun W (hb : Below w1.heap.size w1 W) => r13sort_any W _ _ A1 H X.length c1_ qq r X (as_.take qq) (HM.out.2.step hb) (by omega) (HG1.out W hb) (by omega))
        have HNl := hid (fun W (hb : Below w4.heap.size w4 W) => asort_nil W _ qq c4 A4 (as_.take qq) (HG4.out W hb) (by omega))
        have HKs := hid (fun W (hb : Below w1.heap.size w1 W) => wakes13_any W _ ((Hs.out.step hb1).step hb))
        have HAn := hid (fun W (hb : Below w4.heap.size w4 W) (hb' : Below w1.heap.size w1 W) => anchors_eq W _ _ A4 H qq c4 r (as_.take qq) (HG4.out W hb) (HG1.out W hb'))
        clear hown4 hb4 hsm4 hHr hGe e1
        repeat' (first | (go_at_call 8; go_must (first | ((with_reducible refine Calls.mono HSo.out ?_); rintro _ w5 ⟨⟨A5, m5, c5, Y, rfl, hs5, hown5⟩, hb5⟩; rw [srt_is hs5] at hown5; obtain rfl := hown5.1; have HO5 := hid hown5; clear hown5 hs5; have B5 := bvia B4 hb5; dsimp only) | ((with_reducible refine Calls.mono (HNl.out _ C8) ?_); rintro _ w9 ⟨rfl, hb9⟩; have B9 := bvia B8 hb9; dsimp only))) | (go_at_call 9; go_must (first | ((with_reducible refine Calls.mono (HAn.out _ hb5 B5) ?_); rintro _ w6 ⟨rfl, hb6⟩; have B6 := bvia B5 hb6; dsimp only) | ((with_reducible refine Calls.mono (anchors_eq _ _ _ _ _ _ _ _ _ (((HO5.out.step hb6).step hb7).row (S := fun _ => True) fun _ _ _ => trivial) (HO7.out.row (S := fun _ => True) fun _ _ _ => trivial)) ?_); rintro _ w8 ⟨rfl, hb8⟩; have B8 := bvia B7 hb8; have C8 := bvia (bvia (bvia hb5 hb6) hb7) hb8; dsimp only))) | (go_at_call 10; go_must ((with_reducible refine Calls.mono (HRs.out _ B6) ?_); rintro _ w7 ⟨⟨O7, q7, rfl, hown7⟩, hb7⟩; have HO7 := hid hown7; clear hown7; have B7 := bvia B6 hb7; dsimp only)) | (go_at_call 11; go_must ((with_reducible refine Calls.mono (HKs.out _ B9) ?_); rintro _ w10 ⟨rfl, hb10⟩; dsimp only)) | go_values | go_skip | go_guarded | go_step | go_upon | go_back)
        skip
        go_ret
        exact ⟨rfl, bvia (bvia hb1 B9) hb10⟩
  have hb2 := H2.out
  clear H2 H1 HM Hs Ha Hai Hb1
  by_cases h30 : q > 30
  · have h30' : (q : Int) > 30 := by omega
    obtain rfl : qq = 30 := by have := Hqq.out; omega
    repeat' (first | (with_reducible exact key0) | go_values | go_skip | go_guarded | go_step | go_upon | go_back)
  · have h30' : ¬ (q : Int) > 30 := by omega
    obtain rfl : qq = q := by have := Hqq.out; omega
    repeat' (first | (with_reducible exact key0) | go_values | go_skip | go_guarded | go_step | go_upon | go_back)
end Go.Proofs.YtnpbbidiloahdaaDoor
