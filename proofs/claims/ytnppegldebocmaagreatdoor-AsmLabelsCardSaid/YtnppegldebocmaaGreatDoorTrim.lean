/- The walks of strings.Trim at a set of ASCII letters, and of asm.label. Conditions: as each theorem states. -/
import Derived.Test.YtnppegldebocmaaGreatDoorNumW
import Derived.Deep.LoopGhost
import Derived.Deep.Light
import Derived.Deep.WholeRow
import Derived.Lib.AsciiSet
namespace Go.Proofs.YtnppegldebocmaaGreatDoor
open Go.RowKit
set_option linter.unusedVariables false
def trimRF (f : UInt8 → Bool) (s : List UInt8) : List UInt8 := (s.reverse.dropWhile f).reverse
theorem trimRF_snoc_yes (f : UInt8 → Bool) (s : List UInt8) (c : UInt8) (h : f c = true) : trimRF f (s ++ [c]) = trimRF f s := by simp [trimRF, h]
theorem trimRF_snoc_no (f : UInt8 → Bool) (s : List UInt8) (c : UInt8) (h : f c = false) : trimRF f (s ++ [c]) = s ++ [c] := by simp [trimRF, h]
theorem take_snoc (s : List UInt8) (k : Nat) (h : k < s.length) : s.take (k + 1) = s.take k ++ [s[k]] := by rw [List.take_succ_eq_append_getElem h]
theorem bsl_ext0 (s : List UInt8) (b : Nat) : (bsl s).extract 0 b = bsl (s.take b) := by
  apply ByteArray.ext
  rw [ByteArray.data_extract]
  have h1 : (bsl s).data = s.toArray := rfl
  rw [h1]
  apply Array.ext'
  simp [bsl]
theorem bsl_ext1 (s : List UInt8) (a b : Nat) (h : s.length ≤ b) : (bsl s).extract a b = bsl (s.drop a) := by
  apply ByteArray.ext
  rw [ByteArray.data_extract]
  have h1 : (bsl s).data = s.toArray := rfl
  rw [h1]
  apply Array.ext'
  have : ((s.drop a).take (b - a)) = s.drop a := List.take_of_length_le (by rw [List.length_drop]; omega)
  simp [bsl, this]
/-- Block b holds the set of the bytes that f takes. -/
def SetAt (w : World) (b : Nat) (f : UInt8 → Bool) : Prop := ∀ x : UInt8, w.cell? ⟨b, x.toNat, none⟩ = some (.bool (f x))
set_option maxHeartbeats 1000000 in
theorem trimR_any (s : List UInt8) (hl : s.length ≤ 100) (b : Nat) (f : UInt8 → Bool) (w : World) (hS : SetAt w b f) :
    Calls Tryz.prog 134 #[.string (bsl s), .pointer (some ⟨b, 0, none⟩)] w fun e w' => e = .returned (.string (bsl (trimRF f s))) ∧ w = w' := by
  have HS : Hid (∀ x, Calls Tryz.prog 119 #[.pointer (some ⟨b, 0, none⟩), .int .u8 (x.toNat : Int)] w fun e w' => e = .returned (.bool (f x)) ∧ w = w') := fun x => (Tryz.asciiSet_contains b x (f x) w (hS x)).mono fun e w' h => ⟨h.1, h.2.symm⟩
  clear hS
  go_enter Tryz.func134, Tryz.ntmps134
  go_wp2
  go_loopg [0] s.length (fun k sv wr => k ≤ s.length ∧ sv = .string (bsl (s.take k)) ∧ wr = w ∧ Hid (trimRF f s = trimRF f (s.take k)))
  case atStart => exact ⟨Nat.le_refl _, by rw [List.take_length], rfl, by show _ = _; rw [List.take_length]⟩
  case round =>
    obtain ⟨hk, rfl, rfl, HT⟩ := hrel
    have hsz := bsl_size (s.take gk)
    have hln : (s.take gk).length = gk := by rw [List.length_take]; omega
    rw [hln] at hsz
    by_cases h0 : gk = 0
    · subst h0
      have HR : Hid (s.take 0 = trimRF f s) := by show _ = _; rw [HT.out]; rfl
      go_wp2
      go_ret
      exact ⟨congrArg (fun z => Ending.returned (.string (bsl z))) HR.out, rfl⟩
    · obtain ⟨j, rfl⟩ : ∃ j, gk = j + 1 := ⟨gk - 1, by go_light; omega⟩
      have hj : j < s.length := hk
      obtain ⟨t, ht⟩ : ∃ t, s.take (j + 1) = t := ⟨_, rfl⟩
      rw [ht] at hsz ⊢
      have hjb : j < (bsl t).size := by go_light; omega
      have hget : (bsl t)[j]'hjb = s[j] := by subst ht; rw [bsl_get]; simp
      obtain ⟨c, hc⟩ : ∃ c, s[j] = c := ⟨_, rfl⟩
      rw [hc] at hget
      have hst := take_snoc s j hj
      rw [hc] at hst
      have HX := Lib.hid hst
      have HTT := Lib.hid ht
      have hex : (bsl t).extract 0 j = bsl (s.take j) := by rw [bsl_ext0, ← ht, List.take_take, Nat.min_eq_left (by go_light; omega)]
      have HG := Lib.hid hget
      clear hget hst hc h0 hln ht
      go_wp2_with fail
      refine (HS.out _).mono ?_
      rintro e w' ⟨rfl, rfl⟩
      rw [HG.out]
      by_cases hf : f c = true
      · have HN : Hid (trimRF f s = trimRF f (s.take j)) := by show _ = _; rw [HT.out, HX.out, trimRF_snoc_yes _ _ _ hf]
        go_wp2_with fail
        go_roundg j
        case rel => exact ⟨by go_light; omega, rfl, rfl, HN⟩
        case measure => go_light; omega
      · have hff : f c = false := by simpa using hf
        have HR : Hid (t = trimRF f s) := by show _ = _; rw [← HTT.out, HT.out, HX.out, trimRF_snoc_no _ _ _ hff]
        clear hf
        go_wp2_with fail
        go_ret
        exact ⟨congrArg (fun z => Ending.returned (.string (bsl z))) HR.out, rfl⟩
set_option maxHeartbeats 1000000 in
theorem trimL_any (s : List UInt8) (hl : s.length ≤ 100) (b : Nat) (f : UInt8 → Bool) (w : World) (hS : SetAt w b f) :
    Calls Tryz.prog 133 #[.string (bsl s), .pointer (some ⟨b, 0, none⟩)] w fun e w' => e = .returned (.string (bsl (s.dropWhile f))) ∧ w = w' := by
  have HS : Hid (∀ x, Calls Tryz.prog 119 #[.pointer (some ⟨b, 0, none⟩), .int .u8 (x.toNat : Int)] w fun e w' => e = .returned (.bool (f x)) ∧ w = w') := fun x => (Tryz.asciiSet_contains b x (f x) w (hS x)).mono fun e w' h => ⟨h.1, h.2.symm⟩
  clear hS
  go_enter Tryz.func133, Tryz.ntmps133
  go_wp2
  go_loopg [0] s.length (fun k sv wr => ∃ t : List UInt8, t.length = k ∧ t.length ≤ 100 ∧ sv = .string (bsl t) ∧ wr = w ∧ Hid (s.dropWhile f = t.dropWhile f))
  case atStart => exact ⟨s, rfl, hl, rfl, rfl, rfl⟩
  case round =>
    obtain ⟨t, ht, htl, rfl, rfl, HT⟩ := hrel
    have hsz := bsl_size t
    cases t with
    | nil =>
      have HR : Hid ([] = s.dropWhile f) := by show _ = _; rw [HT.out]; rfl
      obtain ⟨tt, htt⟩ : ∃ tt, ([] : List UInt8) = tt := ⟨_, rfl⟩
      have hsz : (bsl tt).size = 0 := by rw [← htt]; rfl
      have HTT := Lib.hid htt
      rw [htt] at HR ⊢
      clear htt ht htl
      go_wp2
      go_ret
      exact ⟨congrArg (fun z => Ending.returned (.string (bsl z))) HR.out, rfl⟩
    | cons c r =>
      have hz : (c :: r).length = r.length + 1 := rfl
      have hjb : 0 < (bsl (c :: r)).size := by go_light; omega
      have hget : (bsl (c :: r))[0]'hjb = c := by rw [bsl_get]; rfl
      have hex : (bsl (c :: r)).extract 1 (r.length + 1) = bsl r := by rw [bsl_ext1 _ _ _ (by go_light; simp)]; rfl
      rw [hz] at hsz htl ht
      have HG := Lib.hid hget
      have HLT := Lib.hid (And.intro ht htl)
      obtain ⟨tt, htt⟩ : ∃ tt, c :: r = tt := ⟨_, rfl⟩
      have HTT := Lib.hid htt
      rw [htt] at hsz hex ⊢
      have hjb : 0 < (bsl tt).size := by go_light; omega
      have HG2 : Hid ((bsl tt)[0]'hjb = c) := by subst htt; exact HG.out
      clear hget HG htt hz ht htl
      go_wp2_with fail
      refine (HS.out _).mono ?_
      rintro e w' ⟨rfl, rfl⟩
      rw [HG2.out]
      by_cases hf : f c = true
      · have HN : Hid (s.dropWhile f = r.dropWhile f) := by show _ = _; rw [HT.out, List.dropWhile_cons, if_pos hf]
        go_wp2_with fail
        go_roundg r.length
        case rel => exact ⟨r, rfl, by have := HLT.out.2; go_light; omega, rfl, rfl, HN⟩
        case measure => have := HLT.out.1; go_light; omega
      · have HR : Hid (tt = s.dropWhile f) := by show _ = _; rw [HT.out, ← HTT.out, List.dropWhile_cons, if_neg hf]
        have hff : f c = false := by simpa using hf
        clear hf
        go_wp2_with fail
        go_ret
        exact ⟨congrArg (fun z => Ending.returned (.string (bsl z))) HR.out, rfl⟩
theorem zero_set (w : World) : (zeroValue 159).run Tryz.prog w = .ok (.agg (Array.replicate 256 (.bool false))) w := by kernel_rfl
set_option maxHeartbeats 1000000 in
set_option maxRecDepth 100000 in
theorem trim_set (s cs : List UInt8) (hl : s.length ≤ 100) (hc2 : 2 ≤ cs.length) (hcl : cs.length ≤ 100) (hascii : ∀ c ∈ cs, c.toNat < 128) (w : World) :
    Calls Tryz.prog 106 #[.string (bsl s), .string (bsl cs)] w fun e w' => e = .returned (.string (bsl ((trimRF cs.contains s).dropWhile cs.contains))) ∧ Below w.heap.size w w' := by
  have hcsz := bsl_size cs
  have hM : Calls Tryz.prog 118 #[.string (bsl cs)] w fun e w' => e = .returned (.tuple #[.agg (Lib.setCells cs), .bool true]) ∧ w' = w.alloc (.cells (Lib.setCells cs) 159) := by
    have h := Tryz.strings_makeASCIISet (zero_set) (bsl cs) w (by omega) (fun j b hb => hascii b (by rw [bsl_data] at hb; exact List.mem_of_getElem? hb))
    rw [bsl_data] at h
    exact h
  have HM := Lib.hid hM
  have hsc : (storeCells ⟨w.heap.size + 1, 0, none⟩ (Lib.setCells cs).toList 0).run Tryz.prog ((w.alloc (.cells (Lib.setCells cs) 159)).alloc (.cells (Array.replicate 256 (.bool false)) 159)) = .ok () ((w.alloc (.cells (Lib.setCells cs) 159)).alloc (.cells (Lib.setCells cs) 159)) := by
    have := run_storeCells_new (P := Tryz.prog) (w.alloc (.cells (Lib.setCells cs) 159)) 159 (Array.replicate 256 (.bool false)) (Lib.setCells cs) (by rw [Lib.setCells_size]; kernel_rfl) (by rw [Lib.setCells_size, Array.size_replicate]) (Lib.setCells_one _)
    simpa using this
  have hset : SetAt ((w.alloc (.cells (Lib.setCells cs) 159)).alloc (.cells (Lib.setCells cs) 159)) (w.heap.size + 1) cs.contains := fun x => by
    rw [World.cell?_alloc_at _ _ _ _ (by simp), Lib.setCells_at]
  have hb2 : Below w.heap.size w ((w.alloc (.cells (Lib.setCells cs) 159)).alloc (.cells (Lib.setCells cs) 159)) := ((Below.refl _ _).alloc (Nat.le_refl _) _).alloc (by simp) _
  have HB := Lib.hid hb2
  have HS := Lib.hid hset
  have hz := zero_set
  clear hM hascii hset hb2
  have he2 : (bsl cs).toList.isEmpty = false := by
    rw [bsl_l2]
    cases cs with
    | nil => simp at hc2
    | cons a b => rfl
  have hn1 : ((cs.length : Int) == 1) = false := beq_eq_false_iff_ne.2 (by omega)
  cases hs : s with
  | nil =>
    have he : (bsl []).toList.isEmpty = true := by rw [bsl_l2]; rfl
    have hd : ((trimRF cs.contains []).dropWhile cs.contains) = [] := rfl
    rw [hd]
    go_enter Tryz.func106, Tryz.ntmps106
    go_wp2
    go_ret
    exact ⟨rfl, Below.refl _ _⟩
  | cons c r =>
    rw [← hs]
    have he : (bsl s).toList.isEmpty = false := by rw [bsl_l2, hs]; rfl
    clear hs
    go_enter Tryz.func106, Tryz.ntmps106
    go_wp2_with fail
    refine HM.out.mono ?_
    rintro e w' ⟨rfl, rfl⟩
    have hszc := Lib.setCells_size cs
    go_wp2_with fail
    refine (trimR_any s hl _ _ _ HS.out).mono ?_
    rintro e w' ⟨rfl, rfl⟩
    have hlt : (trimRF cs.contains s).length ≤ 100 := by
      have : (trimRF cs.contains s).length ≤ s.length := by
        unfold trimRF
        rw [List.length_reverse]
        have := (List.dropWhile_suffix (l := s.reverse) cs.contains).length_le
        rwa [List.length_reverse] at this
      go_light; omega
    obtain ⟨st, hst⟩ : ∃ st, trimRF cs.contains s = st := ⟨_, rfl⟩
    rw [hst] at hlt ⊢
    have HST := Lib.hid hst
    have HL2 := Lib.hid (trimL_any st hlt _ _ _ HS.out)
    clear hlt hst
    go_wp2_with fail
    refine HL2.out.mono ?_
    rintro e w' ⟨rfl, rfl⟩
    go_wp2
    go_ret
    refine ⟨?_, HB.out⟩
    rw [HST.out]
    rfl
/-- Is a text a label? -/
def lowC (c : UInt8) : Bool := decide (97 ≤ c.toNat) && decide (c.toNat ≤ 122)
def labC (c : UInt8) : Bool := lowC c || (decide (48 ≤ c.toNat) && decide (c.toNat ≤ 57))
def labelB (s : List UInt8) : Bool := match s with
  | [] => false
  | c :: r => decide (r.length < 12) && (lowC c && (c :: r).all labC)
def labSet : List UInt8 := [97, 98, 99, 100, 101, 102, 103, 104, 105, 106, 107, 108, 109, 110, 111, 112, 113, 114, 115, 116, 117, 118, 119, 120, 121, 122, 48, 49, 50, 51, 52, 53, 54, 55, 56, 57]
theorem labSet_is (c : UInt8) : labSet.contains c = labC c := by
  have all : ∀ k : Nat, k < 256 → labSet.contains (UInt8.ofNat k) = labC (UInt8.ofNat k) := by decide +kernel
  have := all c.toNat (UInt8.toNat_lt c)
  rwa [UInt8.ofNat_toNat] at this
theorem drop_all (f : UInt8 → Bool) : ∀ s : List UInt8, (s.dropWhile f = []) ↔ s.all f = true
  | [] => by simp
  | c :: r => by
    by_cases h : f c = true
    · rw [List.dropWhile_cons, if_pos h, drop_all f r, List.all_cons, h, Bool.true_and]
    · rw [List.dropWhile_cons, if_neg h, List.all_cons]
      simp [h]
theorem trim_all (f : UInt8 → Bool) (s : List UInt8) : ((trimRF f s).dropWhile f).isEmpty = s.all f := by
  rw [Bool.eq_iff_iff, List.isEmpty_iff, drop_all]
  unfold trimRF
  rw [List.all_reverse]
  constructor
  · intro h
    have h2 : s.reverse.all f = true := by
      have e := List.takeWhile_append_dropWhile (p := f) (l := s.reverse)
      rw [← e, List.all_append, h, Bool.and_true]
      exact List.all_takeWhile
    rwa [List.all_reverse] at h2
  · intro h
    have : s.reverse.dropWhile f = [] := (drop_all f _).2 (by rw [List.all_reverse]; exact h)
    rw [this]; rfl
set_option maxHeartbeats 1000000 in
set_option maxRecDepth 100000 in
theorem label_any (s : List UInt8) (hl : s.length ≤ 100) (w : World) :
    Calls Tryz.prog 80 #[.string (bsl s)] w fun e w' => e = .returned (.bool (labelB s)) ∧ Below w.heap.size w w' := by
  have hsz := bsl_size s
  cases hs : s with
  | nil =>
    have he : (bsl []).toList.isEmpty = true := by rw [bsl_l2]; rfl
    have hd : labelB [] = false := rfl
    rw [hd]
    go_enter Tryz.func80, Tryz.ntmps80
    go_wp2
    go_ret
    exact ⟨rfl, Below.refl _ _⟩
  | cons c r =>
    rw [← hs]
    have he : (bsl s).toList.isEmpty = false := by rw [bsl_l2, hs]; rfl
    have hln : s.length = r.length + 1 := by rw [hs]; rfl
    have hjb : 0 < (bsl s).size := by omega
    have hget : (bsl s)[0]'hjb = c := by subst hs; rw [bsl_get]; rfl
    have HG := Lib.hid hget
    have HLB : Hid (labelB s = (decide (r.length < 12) && (lowC c && s.all labC))) := by show _ = _; rw [hs]; rfl
    have HT := Lib.hid (trim_set s labSet hl (by decide) (by decide) (by decide) w)
    have HCS : Hid (bsl labSet = ⟨#[97, 98, 99, 100, 101, 102, 103, 104, 105, 106, 107, 108, 109, 110, 111, 112, 113, 114, 115, 116, 117, 118, 119, 120, 121, 122, 48, 49, 50, 51, 52, 53, 54, 55, 56, 57]⟩) := rfl
    clear hs hget
    by_cases h12 : 12 < s.length
    · have h12' : (12 : Int) < (s.length : Int) := by omega
      have HR : Hid (labelB s = false) := by show _ = _; rw [HLB.out, decide_eq_false (by omega)]; rfl
      clear h12
      go_enter Tryz.func80, Tryz.ntmps80
      go_wp2
      go_ret
      exact ⟨congrArg (fun b => Ending.returned (.bool b)) HR.out.symm, Below.refl _ _⟩
    have h12' : ¬ (12 : Int) < (s.length : Int) := by omega
    by_cases hlow : lowC c = true
    · have hlo : 97 ≤ c.toNat ∧ c.toNat ≤ 122 := by simpa [lowC] using hlow
      have h97 : ¬ ((((bsl s)[0]'hjb).toNat : Int) < 97) := by rw [HG.out]; omega
      have h122 : ¬ ((122 : Int) < (((bsl s)[0]'hjb).toNat : Int)) := by rw [HG.out]; omega
      have HR : Hid (labelB s = s.all labC) := by show _ = _; rw [HLB.out, decide_eq_true (by omega), hlow]; rfl
      have hts := trim_all labSet.contains s
      have hfun : labSet.contains = labC := funext labSet_is
      rw [hfun] at hts
      have HTS := Lib.hid hts
      have HFU := Lib.hid hfun
      clear hlow hlo h12 hts hfun
      go_enter Tryz.func80, Tryz.ntmps80
      go_wp2_with fail
      refine HT.out.mono ?_
      rintro e w1 ⟨rfl, hb1⟩
      obtain ⟨st, hst⟩ : ∃ st, (trimRF labSet.contains s).dropWhile labSet.contains = st := ⟨_, rfl⟩
      have HST : Hid (st.isEmpty = s.all labC) := by show _ = _; rw [← hst, HFU.out, HTS.out]
      rw [hst]
      clear hst
      have hb : (bsl st).toList.isEmpty = s.all labC := by rw [bsl_l2, HST.out]
      cases hall : s.all labC with
      | true =>
        rw [hall] at hb
        have HR2 : Hid (labelB s = true) := by show _ = _; rw [HR.out, hall]
        clear hall
        go_wp2
        go_ret
        exact ⟨congrArg (fun b => Ending.returned (.bool b)) HR2.out.symm, hb1⟩
      | false =>
        rw [hall] at hb
        have HR2 : Hid (labelB s = false) := by show _ = _; rw [HR.out, hall]
        clear hall
        go_wp2
        go_ret
        exact ⟨congrArg (fun b => Ending.returned (.bool b)) HR2.out.symm, hb1⟩
    · have hf : lowC c = false := by simpa using hlow
      have HR : Hid (labelB s = false) := by show _ = _; rw [HLB.out, hf, Bool.false_and, Bool.and_false]
      have hor : (((bsl s)[0]'hjb).toNat : Int) < 97 ∨ ((122 : Int) < (((bsl s)[0]'hjb).toNat : Int) ∧ ¬ (((bsl s)[0]'hjb).toNat : Int) < 97) := by
        rw [HG.out]
        simp only [lowC, Bool.and_eq_false_iff, decide_eq_false_iff_not] at hf
        omega
      clear hf hlow h12
      rcases hor with h97 | ⟨h122, h97⟩
      · go_enter Tryz.func80, Tryz.ntmps80
        go_wp2
        go_ret
        exact ⟨congrArg (fun b => Ending.returned (.bool b)) HR.out.symm, Below.refl _ _⟩
      · go_enter Tryz.func80, Tryz.ntmps80
        go_wp2
        go_ret
        exact ⟨congrArg (fun b => Ending.returned (.bool b)) HR.out.symm, Below.refl _ _⟩
end Go.Proofs.YtnppegldebocmaaGreatDoor
