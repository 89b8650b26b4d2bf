/- Texts C2 M7 M8 E5 N14 N15 C3 N17 N18 N19 P2 N22 in one. No condition. -/
import Derived.Test.YtmechjnfeidnkaaGreatZIsReplay5
set_option linter.unnecessarySimpa false
set_option linter.unusedSimpArgs false
set_option linter.unusedVariables false
section
namespace Go.Proofs.YtmechjnfeidnkaaGreat.V.W
open Go Go.RowKit
set_option maxRecDepth 20000 in
set_option maxHeartbeats 8000000 in
theorem specCopy_vc (x : Fab) (hx : FabL x) (hg : x.2.2.2.2.length ≤ 2000000) : VC Tryz.prog 91 [.v true sFi x] (· = .root (.val true) sFi fFab x) := by
 obtain ⟨t, s, b, m, g⟩ := x
 have ha : t.length ≤ 2000000 := hx.a
 have hb : s.length ≤ 2000000 := hx.b
 have hcc : b.length ≤ 2000000 := hx.c
 have hd : m.length ≤ 2000000 := hx.d
 have he : ∀ k, (m.getD k []).length ≤ 2000000 := hx.e
 have hg : g.length ≤ 2000000 := hg
 have hS1 : limOk t.length 24 = true := by simp [limOk]; omega
 have hS2 : limOk s.length 8 = true := by simp [limOk]; omega
 have hS3 : limOk b.length 16 = true := by simp [limOk]; omega
 refine VC.of_body hT Tryz.func91 rfl (by kernel_rfl) [(.cell 2 32, true, sFi)] (by kernel_rfl) ?_
 show VW _ _ ([.v true sFi (t, s, b, m, g), D, D, D, D, D, D, D, D, D, D, D, D, D, D, D, D, D, D, D, D, D, D, D, D, D, D, D, D, D, D, D, D, D, D, D, D, D, D, D, D, D, D, D, D]) _
 repeat refine VW.seq ?_
 refine VW.regl hT fun K hK => ?_
 simp only [wq, simprocAttr]
 refine hK _ ?_
 clear hK K
 try refine vthen_n ?_
 repeat refine VW.seq ?_
 refine VW.any hT hm fun K hK W hW => ?_
 apply cutl; intro tK
 apply cutl; intro t32767
 apply cutl; intro t16383
 apply cutl; intro t12287
 apply cutl; intro t8191
 apply cutl; intro t10239
 apply cutl; intro t4095
 apply cutl; intro t10111
 apply cutl; intro t9983
 apply cutl; intro t9215
 apply cutl; intro t2047
 apply cutl; intro t10103
 apply cutl; intro t10095
 apply cutl; intro t10047
 apply cutl; intro t9855
 apply cutl; intro t9087
 apply cutl; intro t8959
 apply cutl; intro t1919
 apply cutl; intro t1791
 apply cutl; intro t1023
 apply cutl; intro t10102
 apply cutl; intro t10099
 apply cutl; intro t10087
 apply cutl; intro t10039
 apply cutl; intro t10031
 apply cutl; intro t9847
 apply cutl; intro t9839
 apply cutl; intro t9791
 apply cutl; intro t9079
 apply cutl; intro t9071
 apply cutl; intro t9023
 apply cutl; intro t8831
 apply cutl; intro t1911
 apply cutl; intro t1903
 apply cutl; intro t1855
 apply cutl; intro t1663
 apply cutl; intro t895
 apply cutl; intro t767
 apply cutl; intro t10098
 apply cutl; intro t10086
 apply cutl; intro t10083
 apply cutl; intro t10038
 apply cutl; intro t10035
 apply cutl; intro t10023
 apply cutl; intro t9846
 apply cutl; intro t9843
 apply cutl; intro t9831
 apply cutl; intro t9783
 apply cutl; intro t9775
 apply cutl; intro t9078
 apply cutl; intro t9075
 apply cutl; intro t9063
 apply cutl; intro t9015
 apply cutl; intro t9007
 apply cutl; intro t8823
 apply cutl; intro t8815
 apply cutl; intro t8767
 apply cutl; intro t1910
 apply cutl; intro t1907
 apply cutl; intro t1895
 apply cutl; intro t1847
 apply cutl; intro t1839
 apply cutl; intro t1655
 apply cutl; intro t1647
 apply cutl; intro t1599
 apply cutl; intro t887
 apply cutl; intro t879
 apply cutl; intro t831
 apply cutl; intro t639
 apply cutl; intro t10082
 apply cutl; intro t10034
 apply cutl; intro t10022
 apply cutl; intro t10019
 apply cutl; intro t9842
 apply cutl; intro t9830
 apply cutl; intro t9827
 apply cutl; intro t9782
 apply cutl; intro t9779
 apply cutl; intro t9767
 apply cutl; intro t9074
 apply cutl; intro t9062
 apply cutl; intro t9059
 apply cutl; intro t9014
 apply cutl; intro t9011
 apply cutl; intro t8999
 apply cutl; intro t8822
 apply cutl; intro t8819
 apply cutl; intro t8807
 apply cutl; intro t8759
 apply cutl; intro t8751
 apply cutl; intro t1906
 apply cutl; intro t1894
 apply cutl; intro t1891
 apply cutl; intro t1846
 apply cutl; intro t1843
 apply cutl; intro t1831
 apply cutl; intro t1654
 apply cutl; intro t1651
 apply cutl; intro t1639
 apply cutl; intro t1591
 apply cutl; intro t1583
 apply cutl; intro t886
 apply cutl; intro t883
 apply cutl; intro t871
 apply cutl; intro t823
 apply cutl; intro t815
 apply cutl; intro t631
 apply cutl; intro t623
 apply cutl; intro t575
 apply cutl; intro t10018
 apply cutl; intro t9826
 apply cutl; intro t9778
 apply cutl; intro t9766
 apply cutl; intro t9763
 apply cutl; intro t9058
 apply cutl; intro t9010
 apply cutl; intro t8998
 apply cutl; intro t8995
 apply cutl; intro t8818
 apply cutl; intro t8806
 apply cutl; intro t8803
 apply cutl; intro t8758
 apply cutl; intro t8755
 apply cutl; intro t8743
 apply cutl; intro t1890
 apply cutl; intro t1842
 apply cutl; intro t1830
 apply cutl; intro t1827
 apply cutl; intro t1650
 apply cutl; intro t1638
 apply cutl; intro t1635
 apply cutl; intro t1590
 apply cutl; intro t1587
 apply cutl; intro t1575
 apply cutl; intro t882
 apply cutl; intro t870
 apply cutl; intro t867
 apply cutl; intro t822
 apply cutl; intro t819
 apply cutl; intro t807
 apply cutl; intro t630
 apply cutl; intro t627
 apply cutl; intro t615
 apply cutl; intro t567
 apply cutl; intro t559
 apply cutl; intro t9762
 apply cutl; intro t8994
 apply cutl; intro t8802
 apply cutl; intro t8754
 apply cutl; intro t8742
 apply cutl; intro t8739
 apply cutl; intro t1826
 apply cutl; intro t1634
 apply cutl; intro t1586
 apply cutl; intro t1574
 apply cutl; intro t1571
 apply cutl; intro t866
 apply cutl; intro t818
 apply cutl; intro t806
 apply cutl; intro t803
 apply cutl; intro t626
 apply cutl; intro t614
 apply cutl; intro t611
 apply cutl; intro t566
 apply cutl; intro t563
 apply cutl; intro t551
 apply cutl; intro t8738
 apply cutl; intro t1570
 apply cutl; intro t802
 apply cutl; intro t610
 apply cutl; intro t562
 apply cutl; intro t550
 apply cutl; intro t547
 ·refine hW.takeF 0 1 2 _ (by kernel_rfl) ?_
  simp only [wy, wq, simprocAttr]
  refine hW.takeF 2 5 34 _ (by kernel_rfl) ?_
  simp only [wy, wq, simprocAttr]
  refine hW.takeF 34 9 546 _ (by kernel_rfl) ?_
  simp only [wy, wq, simprocAttr]
  refine hW.all 546 [(0, 547), (2, 550), (4, 562), (6, 610), (8, 802), (10, 1570), (13, 8738)] _ (by kernel_rfl) (by simp) ?_
  simp only [wy, wq, simprocAttr]
  exact ⟨t547.h, t550.h, t562.h, t610.h, t802.h, t1570.h, t8738.h⟩
 ·refine hW.all 547 [(2, 551), (4, 563), (6, 611), (8, 803), (10, 1571), (13, 8739)] _ (by kernel_rfl) (by simp) ?_
  simp only [wy, wq, simprocAttr]
  exact ⟨t551.h, t563.h, t611.h, t803.h, t1571.h, t8739.h⟩
 ·refine hW.all 550 [(0, 551), (4, 566), (6, 614), (8, 806), (10, 1574), (13, 8742)] _ (by kernel_rfl) (by simp) ?_
  simp only [wy, wq, simprocAttr]
  exact ⟨t551.h, t566.h, t614.h, t806.h, t1574.h, t8742.h⟩
 ·refine hW.all 562 [(0, 563), (2, 566), (6, 626), (8, 818), (10, 1586), (13, 8754)] _ (by kernel_rfl) (by simp) ?_
  simp only [wy, wq, simprocAttr]
  exact ⟨t563.h, t566.h, t626.h, t818.h, t1586.h, t8754.h⟩
 ·refine hW.all 610 [(0, 611), (2, 614), (4, 626), (8, 866), (10, 1634), (13, 8802)] _ (by kernel_rfl) (by simp) ?_
  simp only [wy, wq, simprocAttr]
  exact ⟨t611.h, t614.h, t626.h, t866.h, t1634.h, t8802.h⟩
 ·refine hW.all 802 [(0, 803), (2, 806), (4, 818), (6, 866), (10, 1826), (13, 8994)] _ (by kernel_rfl) (by simp) ?_
  simp only [wy, wq, simprocAttr]
  exact ⟨t803.h, t806.h, t818.h, t866.h, t1826.h, t8994.h⟩
 ·refine hW.all 1570 [(0, 1571), (2, 1574), (4, 1586), (6, 1634), (8, 1826), (13, 9762)] _ (by kernel_rfl) (by simp) ?_
  simp only [wy, wq, simprocAttr]
  exact ⟨t1571.h, t1574.h, t1586.h, t1634.h, t1826.h, t9762.h⟩
 ·refine hW.all 8738 [(0, 8739), (2, 8742), (4, 8754), (6, 8802), (8, 8994), (10, 9762)] _ (by kernel_rfl) (by simp) ?_
  simp only [wy, wq, simprocAttr]
  exact ⟨t8739.h, t8742.h, t8754.h, t8802.h, t8994.h, t9762.h⟩
 ·refine hW.all 551 [(3, 559), (4, 567), (6, 615), (8, 807), (10, 1575), (13, 8743)] _ (by kernel_rfl) (by simp) ?_
  simp only [wy, wq, simprocAttr]
  exact ⟨⟨hS1, t559.h⟩, t567.h, t615.h, t807.h, t1575.h, t8743.h⟩
 ·refine hW.all 563 [(2, 567), (6, 627), (8, 819), (10, 1587), (13, 8755)] _ (by kernel_rfl) (by simp) ?_
  simp only [wy, wq, simprocAttr]
  exact ⟨t567.h, t627.h, t819.h, t1587.h, t8755.h⟩
 ·refine hW.all 566 [(0, 567), (6, 630), (8, 822), (10, 1590), (13, 8758)] _ (by kernel_rfl) (by simp) ?_
  simp only [wy, wq, simprocAttr]
  exact ⟨t567.h, t630.h, t822.h, t1590.h, t8758.h⟩
 ·refine hW.all 611 [(2, 615), (4, 627), (8, 867), (10, 1635), (13, 8803)] _ (by kernel_rfl) (by simp) ?_
  simp only [wy, wq, simprocAttr]
  exact ⟨t615.h, t627.h, t867.h, t1635.h, t8803.h⟩
 ·refine hW.all 614 [(0, 615), (4, 630), (8, 870), (10, 1638), (13, 8806)] _ (by kernel_rfl) (by simp) ?_
  simp only [wy, wq, simprocAttr]
  exact ⟨t615.h, t630.h, t870.h, t1638.h, t8806.h⟩
 ·refine hW.all 626 [(0, 627), (2, 630), (8, 882), (10, 1650), (13, 8818)] _ (by kernel_rfl) (by simp) ?_
  simp only [wy, wq, simprocAttr]
  exact ⟨t627.h, t630.h, t882.h, t1650.h, t8818.h⟩
 ·refine hW.all 803 [(2, 807), (4, 819), (6, 867), (10, 1827), (13, 8995)] _ (by kernel_rfl) (by simp) ?_
  simp only [wy, wq, simprocAttr]
  exact ⟨t807.h, t819.h, t867.h, t1827.h, t8995.h⟩
 ·refine hW.all 806 [(0, 807), (4, 822), (6, 870), (10, 1830), (13, 8998)] _ (by kernel_rfl) (by simp) ?_
  simp only [wy, wq, simprocAttr]
  exact ⟨t807.h, t822.h, t870.h, t1830.h, t8998.h⟩
 ·refine hW.all 818 [(0, 819), (2, 822), (6, 882), (10, 1842), (13, 9010)] _ (by kernel_rfl) (by simp) ?_
  simp only [wy, wq, simprocAttr]
  exact ⟨t819.h, t822.h, t882.h, t1842.h, t9010.h⟩
 ·refine hW.all 866 [(0, 867), (2, 870), (4, 882), (10, 1890), (13, 9058)] _ (by kernel_rfl) (by simp) ?_
  simp only [wy, wq, simprocAttr]
  exact ⟨t867.h, t870.h, t882.h, t1890.h, t9058.h⟩
 ·refine hW.all 1571 [(2, 1575), (4, 1587), (6, 1635), (8, 1827), (13, 9763)] _ (by kernel_rfl) (by simp) ?_
  simp only [wy, wq, simprocAttr]
  exact ⟨t1575.h, t1587.h, t1635.h, t1827.h, t9763.h⟩
 ·refine hW.all 1574 [(0, 1575), (4, 1590), (6, 1638), (8, 1830), (13, 9766)] _ (by kernel_rfl) (by simp) ?_
  simp only [wy, wq, simprocAttr]
  exact ⟨t1575.h, t1590.h, t1638.h, t1830.h, t9766.h⟩
 ·refine hW.all 1586 [(0, 1587), (2, 1590), (6, 1650), (8, 1842), (13, 9778)] _ (by kernel_rfl) (by simp) ?_
  simp only [wy, wq, simprocAttr]
  exact ⟨t1587.h, t1590.h, t1650.h, t1842.h, t9778.h⟩
 ·refine hW.all 1634 [(0, 1635), (2, 1638), (4, 1650), (8, 1890), (13, 9826)] _ (by kernel_rfl) (by simp) ?_
  simp only [wy, wq, simprocAttr]
  exact ⟨t1635.h, t1638.h, t1650.h, t1890.h, t9826.h⟩
 ·refine hW.all 1826 [(0, 1827), (2, 1830), (4, 1842), (6, 1890), (13, 10018)] _ (by kernel_rfl) (by simp) ?_
  simp only [wy, wq, simprocAttr]
  exact ⟨t1827.h, t1830.h, t1842.h, t1890.h, t10018.h⟩
 ·refine hW.all 8739 [(2, 8743), (4, 8755), (6, 8803), (8, 8995), (10, 9763)] _ (by kernel_rfl) (by simp) ?_
  simp only [wy, wq, simprocAttr]
  exact ⟨t8743.h, t8755.h, t8803.h, t8995.h, t9763.h⟩
 ·refine hW.all 8742 [(0, 8743), (4, 8758), (6, 8806), (8, 8998), (10, 9766)] _ (by kernel_rfl) (by simp) ?_
  simp only [wy, wq, simprocAttr]
  exact ⟨t8743.h, t8758.h, t8806.h, t8998.h, t9766.h⟩
 ·refine hW.all 8754 [(0, 8755), (2, 8758), (6, 8818), (8, 9010), (10, 9778)] _ (by kernel_rfl) (by simp) ?_
  simp only [wy, wq, simprocAttr]
  exact ⟨t8755.h, t8758.h, t8818.h, t9010.h, t9778.h⟩
 ·refine hW.all 8802 [(0, 8803), (2, 8806), (4, 8818), (8, 9058), (10, 9826)] _ (by kernel_rfl) (by simp) ?_
  simp only [wy, wq, simprocAttr]
  exact ⟨t8803.h, t8806.h, t8818.h, t9058.h, t9826.h⟩
 ·refine hW.all 8994 [(0, 8995), (2, 8998), (4, 9010), (6, 9058), (10, 10018)] _ (by kernel_rfl) (by simp) ?_
  simp only [wy, wq, simprocAttr]
  exact ⟨t8995.h, t8998.h, t9010.h, t9058.h, t10018.h⟩
 ·refine hW.all 9762 [(0, 9763), (2, 9766), (4, 9778), (6, 9826), (8, 10018)] _ (by kernel_rfl) (by simp) ?_
  simp only [wy, wq, simprocAttr]
  exact ⟨t9763.h, t9766.h, t9778.h, t9826.h, t10018.h⟩
 ·refine hW.all 559 [(4, 575), (6, 623), (8, 815), (10, 1583), (13, 8751)] _ (by kernel_rfl) (by simp) ?_
  simp only [wy, wq, simprocAttr]
  exact ⟨t575.h, t623.h, t815.h, t1583.h, t8751.h⟩
 ·refine hW.all 567 [(3, 575), (6, 631), (8, 823), (10, 1591), (13, 8759)] _ (by kernel_rfl) (by simp) ?_
  simp only [wy, wq, simprocAttr]
  exact ⟨⟨hS1, t575.h⟩, t631.h, t823.h, t1591.h, t8759.h⟩
 ·refine hW.all 615 [(3, 623), (4, 631), (8, 871), (10, 1639), (13, 8807)] _ (by kernel_rfl) (by simp) ?_
  simp only [wy, wq, simprocAttr]
  exact ⟨⟨hS1, t623.h⟩, t631.h, t871.h, t1639.h, t8807.h⟩
 ·refine hW.all 627 [(2, 631), (8, 883), (10, 1651), (13, 8819)] _ (by kernel_rfl) (by simp) ?_
  simp only [wy, wq, simprocAttr]
  exact ⟨t631.h, t883.h, t1651.h, t8819.h⟩
 ·refine hW.all 630 [(0, 631), (8, 886), (10, 1654), (13, 8822)] _ (by kernel_rfl) (by simp) ?_
  simp only [wy, wq, simprocAttr]
  exact ⟨t631.h, t886.h, t1654.h, t8822.h⟩
 ·refine hW.all 807 [(3, 815), (4, 823), (6, 871), (10, 1831), (13, 8999)] _ (by kernel_rfl) (by simp) ?_
  simp only [wy, wq, simprocAttr]
  exact ⟨⟨hS1, t815.h⟩, t823.h, t871.h, t1831.h, t8999.h⟩
 ·refine hW.all 819 [(2, 823), (6, 883), (10, 1843), (13, 9011)] _ (by kernel_rfl) (by simp) ?_
  simp only [wy, wq, simprocAttr]
  exact ⟨t823.h, t883.h, t1843.h, t9011.h⟩
 ·refine hW.all 822 [(0, 823), (6, 886), (10, 1846), (13, 9014)] _ (by kernel_rfl) (by simp) ?_
  simp only [wy, wq, simprocAttr]
  exact ⟨t823.h, t886.h, t1846.h, t9014.h⟩
 ·refine hW.all 867 [(2, 871), (4, 883), (10, 1891), (13, 9059)] _ (by kernel_rfl) (by simp) ?_
  simp only [wy, wq, simprocAttr]
  exact ⟨t871.h, t883.h, t1891.h, t9059.h⟩
 ·refine hW.all 870 [(0, 871), (4, 886), (10, 1894), (13, 9062)] _ (by kernel_rfl) (by simp) ?_
  simp only [wy, wq, simprocAttr]
  exact ⟨t871.h, t886.h, t1894.h, t9062.h⟩
 ·refine hW.all 882 [(0, 883), (2, 886), (10, 1906), (13, 9074)] _ (by kernel_rfl) (by simp) ?_
  simp only [wy, wq, simprocAttr]
  exact ⟨t883.h, t886.h, t1906.h, t9074.h⟩
 ·refine hW.all 1575 [(3, 1583), (4, 1591), (6, 1639), (8, 1831), (13, 9767)] _ (by kernel_rfl) (by simp) ?_
  simp only [wy, wq, simprocAttr]
  exact ⟨⟨hS1, t1583.h⟩, t1591.h, t1639.h, t1831.h, t9767.h⟩
 ·refine hW.all 1587 [(2, 1591), (6, 1651), (8, 1843), (13, 9779)] _ (by kernel_rfl) (by simp) ?_
  simp only [wy, wq, simprocAttr]
  exact ⟨t1591.h, t1651.h, t1843.h, t9779.h⟩
 ·refine hW.all 1590 [(0, 1591), (6, 1654), (8, 1846), (13, 9782)] _ (by kernel_rfl) (by simp) ?_
  simp only [wy, wq, simprocAttr]
  exact ⟨t1591.h, t1654.h, t1846.h, t9782.h⟩
 ·refine hW.all 1635 [(2, 1639), (4, 1651), (8, 1891), (13, 9827)] _ (by kernel_rfl) (by simp) ?_
  simp only [wy, wq, simprocAttr]
  exact ⟨t1639.h, t1651.h, t1891.h, t9827.h⟩
 ·refine hW.all 1638 [(0, 1639), (4, 1654), (8, 1894), (13, 9830)] _ (by kernel_rfl) (by simp) ?_
  simp only [wy, wq, simprocAttr]
  exact ⟨t1639.h, t1654.h, t1894.h, t9830.h⟩
 ·refine hW.all 1650 [(0, 1651), (2, 1654), (8, 1906), (13, 9842)] _ (by kernel_rfl) (by simp) ?_
  simp only [wy, wq, simprocAttr]
  exact ⟨t1651.h, t1654.h, t1906.h, t9842.h⟩
 ·refine hW.all 1827 [(2, 1831), (4, 1843), (6, 1891), (13, 10019)] _ (by kernel_rfl) (by simp) ?_
  simp only [wy, wq, simprocAttr]
  exact ⟨t1831.h, t1843.h, t1891.h, t10019.h⟩
 ·refine hW.all 1830 [(0, 1831), (4, 1846), (6, 1894), (13, 10022)] _ (by kernel_rfl) (by simp) ?_
  simp only [wy, wq, simprocAttr]
  exact ⟨t1831.h, t1846.h, t1894.h, t10022.h⟩
 ·refine hW.all 1842 [(0, 1843), (2, 1846), (6, 1906), (13, 10034)] _ (by kernel_rfl) (by simp) ?_
  simp only [wy, wq, simprocAttr]
  exact ⟨t1843.h, t1846.h, t1906.h, t10034.h⟩
 ·refine hW.all 1890 [(0, 1891), (2, 1894), (4, 1906), (13, 10082)] _ (by kernel_rfl) (by simp) ?_
  simp only [wy, wq, simprocAttr]
  exact ⟨t1891.h, t1894.h, t1906.h, t10082.h⟩
 ·refine hW.all 8743 [(3, 8751), (4, 8759), (6, 8807), (8, 8999), (10, 9767)] _ (by kernel_rfl) (by simp) ?_
  simp only [wy, wq, simprocAttr]
  exact ⟨⟨hS1, t8751.h⟩, t8759.h, t8807.h, t8999.h, t9767.h⟩
 ·refine hW.all 8755 [(2, 8759), (6, 8819), (8, 9011), (10, 9779)] _ (by kernel_rfl) (by simp) ?_
  simp only [wy, wq, simprocAttr]
  exact ⟨t8759.h, t8819.h, t9011.h, t9779.h⟩
 ·refine hW.all 8758 [(0, 8759), (6, 8822), (8, 9014), (10, 9782)] _ (by kernel_rfl) (by simp) ?_
  simp only [wy, wq, simprocAttr]
  exact ⟨t8759.h, t8822.h, t9014.h, t9782.h⟩
 ·refine hW.all 8803 [(2, 8807), (4, 8819), (8, 9059), (10, 9827)] _ (by kernel_rfl) (by simp) ?_
  simp only [wy, wq, simprocAttr]
  exact ⟨t8807.h, t8819.h, t9059.h, t9827.h⟩
 ·refine hW.all 8806 [(0, 8807), (4, 8822), (8, 9062), (10, 9830)] _ (by kernel_rfl) (by simp) ?_
  simp only [wy, wq, simprocAttr]
  exact ⟨t8807.h, t8822.h, t9062.h, t9830.h⟩
 ·refine hW.all 8818 [(0, 8819), (2, 8822), (8, 9074), (10, 9842)] _ (by kernel_rfl) (by simp) ?_
  simp only [wy, wq, simprocAttr]
  exact ⟨t8819.h, t8822.h, t9074.h, t9842.h⟩
 ·refine hW.all 8995 [(2, 8999), (4, 9011), (6, 9059), (10, 10019)] _ (by kernel_rfl) (by simp) ?_
  simp only [wy, wq, simprocAttr]
  exact ⟨t8999.h, t9011.h, t9059.h, t10019.h⟩
 ·refine hW.all 8998 [(0, 8999), (4, 9014), (6, 9062), (10, 10022)] _ (by kernel_rfl) (by simp) ?_
  simp only [wy, wq, simprocAttr]
  exact ⟨t8999.h, t9014.h, t9062.h, t10022.h⟩
 ·refine hW.all 9010 [(0, 9011), (2, 9014), (6, 9074), (10, 10034)] _ (by kernel_rfl) (by simp) ?_
  simp only [wy, wq, simprocAttr]
  exact ⟨t9011.h, t9014.h, t9074.h, t10034.h⟩
 ·refine hW.all 9058 [(0, 9059), (2, 9062), (4, 9074), (10, 10082)] _ (by kernel_rfl) (by simp) ?_
  simp only [wy, wq, simprocAttr]
  exact ⟨t9059.h, t9062.h, t9074.h, t10082.h⟩
 ·refine hW.all 9763 [(2, 9767), (4, 9779), (6, 9827), (8, 10019)] _ (by kernel_rfl) (by simp) ?_
  simp only [wy, wq, simprocAttr]
  exact ⟨t9767.h, t9779.h, t9827.h, t10019.h⟩
 ·refine hW.all 9766 [(0, 9767), (4, 9782), (6, 9830), (8, 10022)] _ (by kernel_rfl) (by simp) ?_
  simp only [wy, wq, simprocAttr]
  exact ⟨t9767.h, t9782.h, t9830.h, t10022.h⟩
 ·refine hW.all 9778 [(0, 9779), (2, 9782), (6, 9842), (8, 10034)] _ (by kernel_rfl) (by simp) ?_
  simp only [wy, wq, simprocAttr]
  exact ⟨t9779.h, t9782.h, t9842.h, t10034.h⟩
 ·refine hW.all 9826 [(0, 9827), (2, 9830), (4, 9842), (8, 10082)] _ (by kernel_rfl) (by simp) ?_
  simp only [wy, wq, simprocAttr]
  exact ⟨t9827.h, t9830.h, t9842.h, t10082.h⟩
 ·refine hW.all 10018 [(0, 10019), (2, 10022), (4, 10034), (6, 10082)] _ (by kernel_rfl) (by simp) ?_
  simp only [wy, wq, simprocAttr]
  exact ⟨t10019.h, t10022.h, t10034.h, t10082.h⟩
 ·refine hW.all 575 [(6, 639), (8, 831), (10, 1599), (13, 8767)] _ (by kernel_rfl) (by simp) ?_
  simp only [wy, wq, simprocAttr]
  exact ⟨t639.h, t831.h, t1599.h, t8767.h⟩
 ·refine hW.all 623 [(4, 639), (8, 879), (10, 1647), (13, 8815)] _ (by kernel_rfl) (by simp) ?_
  simp only [wy, wq, simprocAttr]
  exact ⟨t639.h, t879.h, t1647.h, t8815.h⟩
 ·refine hW.all 631 [(3, 639), (8, 887), (10, 1655), (13, 8823)] _ (by kernel_rfl) (by simp) ?_
  simp only [wy, wq, simprocAttr]
  exact ⟨⟨hS1, t639.h⟩, t887.h, t1655.h, t8823.h⟩
 ·refine hW.all 815 [(4, 831), (6, 879), (10, 1839), (13, 9007)] _ (by kernel_rfl) (by simp) ?_
  simp only [wy, wq, simprocAttr]
  exact ⟨t831.h, t879.h, t1839.h, t9007.h⟩
 ·refine hW.all 823 [(3, 831), (6, 887), (10, 1847), (13, 9015)] _ (by kernel_rfl) (by simp) ?_
  simp only [wy, wq, simprocAttr]
  exact ⟨⟨hS1, t831.h⟩, t887.h, t1847.h, t9015.h⟩
 ·refine hW.all 871 [(3, 879), (4, 887), (10, 1895), (13, 9063)] _ (by kernel_rfl) (by simp) ?_
  simp only [wy, wq, simprocAttr]
  exact ⟨⟨hS1, t879.h⟩, t887.h, t1895.h, t9063.h⟩
 ·refine hW.all 883 [(2, 887), (10, 1907), (13, 9075)] _ (by kernel_rfl) (by simp) ?_
  simp only [wy, wq, simprocAttr]
  exact ⟨t887.h, t1907.h, t9075.h⟩
 ·refine hW.all 886 [(0, 887), (10, 1910), (13, 9078)] _ (by kernel_rfl) (by simp) ?_
  simp only [wy, wq, simprocAttr]
  exact ⟨t887.h, t1910.h, t9078.h⟩
 ·refine hW.all 1583 [(4, 1599), (6, 1647), (8, 1839), (13, 9775)] _ (by kernel_rfl) (by simp) ?_
  simp only [wy, wq, simprocAttr]
  exact ⟨t1599.h, t1647.h, t1839.h, t9775.h⟩
 ·refine hW.all 1591 [(3, 1599), (6, 1655), (8, 1847), (13, 9783)] _ (by kernel_rfl) (by simp) ?_
  simp only [wy, wq, simprocAttr]
  exact ⟨⟨hS1, t1599.h⟩, t1655.h, t1847.h, t9783.h⟩
 ·refine hW.all 1639 [(3, 1647), (4, 1655), (8, 1895), (13, 9831)] _ (by kernel_rfl) (by simp) ?_
  simp only [wy, wq, simprocAttr]
  exact ⟨⟨hS1, t1647.h⟩, t1655.h, t1895.h, t9831.h⟩
 ·refine hW.all 1651 [(2, 1655), (8, 1907), (13, 9843)] _ (by kernel_rfl) (by simp) ?_
  simp only [wy, wq, simprocAttr]
  exact ⟨t1655.h, t1907.h, t9843.h⟩
 ·refine hW.all 1654 [(0, 1655), (8, 1910), (13, 9846)] _ (by kernel_rfl) (by simp) ?_
  simp only [wy, wq, simprocAttr]
  exact ⟨t1655.h, t1910.h, t9846.h⟩
 ·refine hW.all 1831 [(3, 1839), (4, 1847), (6, 1895), (13, 10023)] _ (by kernel_rfl) (by simp) ?_
  simp only [wy, wq, simprocAttr]
  exact ⟨⟨hS1, t1839.h⟩, t1847.h, t1895.h, t10023.h⟩
 ·refine hW.all 1843 [(2, 1847), (6, 1907), (13, 10035)] _ (by kernel_rfl) (by simp) ?_
  simp only [wy, wq, simprocAttr]
  exact ⟨t1847.h, t1907.h, t10035.h⟩
 ·refine hW.all 1846 [(0, 1847), (6, 1910), (13, 10038)] _ (by kernel_rfl) (by simp) ?_
  simp only [wy, wq, simprocAttr]
  exact ⟨t1847.h, t1910.h, t10038.h⟩
 ·refine hW.all 1891 [(2, 1895), (4, 1907), (13, 10083)] _ (by kernel_rfl) (by simp) ?_
  simp only [wy, wq, simprocAttr]
  exact ⟨t1895.h, t1907.h, t10083.h⟩
 ·refine hW.all 1894 [(0, 1895), (4, 1910), (13, 10086)] _ (by kernel_rfl) (by simp) ?_
  simp only [wy, wq, simprocAttr]
  exact ⟨t1895.h, t1910.h, t10086.h⟩
 ·refine hW.all 1906 [(0, 1907), (2, 1910), (13, 10098)] _ (by kernel_rfl) (by simp) ?_
  simp only [wy, wq, simprocAttr]
  exact ⟨t1907.h, t1910.h, t10098.h⟩
 ·refine hW.all 8751 [(4, 8767), (6, 8815), (8, 9007), (10, 9775)] _ (by kernel_rfl) (by simp) ?_
  simp only [wy, wq, simprocAttr]
  exact ⟨t8767.h, t8815.h, t9007.h, t9775.h⟩
 ·refine hW.all 8759 [(3, 8767), (6, 8823), (8, 9015), (10, 9783)] _ (by kernel_rfl) (by simp) ?_
  simp only [wy, wq, simprocAttr]
  exact ⟨⟨hS1, t8767.h⟩, t8823.h, t9015.h, t9783.h⟩
 ·refine hW.all 8807 [(3, 8815), (4, 8823), (8, 9063), (10, 9831)] _ (by kernel_rfl) (by simp) ?_
  simp only [wy, wq, simprocAttr]
  exact ⟨⟨hS1, t8815.h⟩, t8823.h, t9063.h, t9831.h⟩
 ·refine hW.all 8819 [(2, 8823), (8, 9075), (10, 9843)] _ (by kernel_rfl) (by simp) ?_
  simp only [wy, wq, simprocAttr]
  exact ⟨t8823.h, t9075.h, t9843.h⟩
 ·refine hW.all 8822 [(0, 8823), (8, 9078), (10, 9846)] _ (by kernel_rfl) (by simp) ?_
  simp only [wy, wq, simprocAttr]
  exact ⟨t8823.h, t9078.h, t9846.h⟩
 ·refine hW.all 8999 [(3, 9007), (4, 9015), (6, 9063), (10, 10023)] _ (by kernel_rfl) (by simp) ?_
  simp only [wy, wq, simprocAttr]
  exact ⟨⟨hS1, t9007.h⟩, t9015.h, t9063.h, t10023.h⟩
 ·refine hW.all 9011 [(2, 9015), (6, 9075), (10, 10035)] _ (by kernel_rfl) (by simp) ?_
  simp only [wy, wq, simprocAttr]
  exact ⟨t9015.h, t9075.h, t10035.h⟩
 ·refine hW.all 9014 [(0, 9015), (6, 9078), (10, 10038)] _ (by kernel_rfl) (by simp) ?_
  simp only [wy, wq, simprocAttr]
  exact ⟨t9015.h, t9078.h, t10038.h⟩
 ·refine hW.all 9059 [(2, 9063), (4, 9075), (10, 10083)] _ (by kernel_rfl) (by simp) ?_
  simp only [wy, wq, simprocAttr]
  exact ⟨t9063.h, t9075.h, t10083.h⟩
 ·refine hW.all 9062 [(0, 9063), (4, 9078), (10, 10086)] _ (by kernel_rfl) (by simp) ?_
  simp only [wy, wq, simprocAttr]
  exact ⟨t9063.h, t9078.h, t10086.h⟩
 ·refine hW.all 9074 [(0, 9075), (2, 9078), (10, 10098)] _ (by kernel_rfl) (by simp) ?_
  simp only [wy, wq, simprocAttr]
  exact ⟨t9075.h, t9078.h, t10098.h⟩
 ·refine hW.all 9767 [(3, 9775), (4, 9783), (6, 9831), (8, 10023)] _ (by kernel_rfl) (by simp) ?_
  simp only [wy, wq, simprocAttr]
  exact ⟨⟨hS1, t9775.h⟩, t9783.h, t9831.h, t10023.h⟩
 ·refine hW.all 9779 [(2, 9783), (6, 9843), (8, 10035)] _ (by kernel_rfl) (by simp) ?_
  simp only [wy, wq, simprocAttr]
  exact ⟨t9783.h, t9843.h, t10035.h⟩
 ·refine hW.all 9782 [(0, 9783), (6, 9846), (8, 10038)] _ (by kernel_rfl) (by simp) ?_
  simp only [wy, wq, simprocAttr]
  exact ⟨t9783.h, t9846.h, t10038.h⟩
 ·refine hW.all 9827 [(2, 9831), (4, 9843), (8, 10083)] _ (by kernel_rfl) (by simp) ?_
  simp only [wy, wq, simprocAttr]
  exact ⟨t9831.h, t9843.h, t10083.h⟩
 ·refine hW.all 9830 [(0, 9831), (4, 9846), (8, 10086)] _ (by kernel_rfl) (by simp) ?_
  simp only [wy, wq, simprocAttr]
  exact ⟨t9831.h, t9846.h, t10086.h⟩
 ·refine hW.all 9842 [(0, 9843), (2, 9846), (8, 10098)] _ (by kernel_rfl) (by simp) ?_
  simp only [wy, wq, simprocAttr]
  exact ⟨t9843.h, t9846.h, t10098.h⟩
 ·refine hW.all 10019 [(2, 10023), (4, 10035), (6, 10083)] _ (by kernel_rfl) (by simp) ?_
  simp only [wy, wq, simprocAttr]
  exact ⟨t10023.h, t10035.h, t10083.h⟩
 ·refine hW.all 10022 [(0, 10023), (4, 10038), (6, 10086)] _ (by kernel_rfl) (by simp) ?_
  simp only [wy, wq, simprocAttr]
  exact ⟨t10023.h, t10038.h, t10086.h⟩
 ·refine hW.all 10034 [(0, 10035), (2, 10038), (6, 10098)] _ (by kernel_rfl) (by simp) ?_
  simp only [wy, wq, simprocAttr]
  exact ⟨t10035.h, t10038.h, t10098.h⟩
 ·refine hW.all 10082 [(0, 10083), (2, 10086), (4, 10098)] _ (by kernel_rfl) (by simp) ?_
  simp only [wy, wq, simprocAttr]
  exact ⟨t10083.h, t10086.h, t10098.h⟩
 ·refine hW.all 639 [(7, 767), (8, 895), (10, 1663), (13, 8831)] _ (by kernel_rfl) (by simp) ?_
  simp only [wy, wq, simprocAttr]
  exact ⟨⟨hS2, t767.h⟩, t895.h, t1663.h, t8831.h⟩
 ·refine hW.all 831 [(6, 895), (10, 1855), (13, 9023)] _ (by kernel_rfl) (by simp) ?_
  simp only [wy, wq, simprocAttr]
  exact ⟨t895.h, t1855.h, t9023.h⟩
 ·refine hW.all 879 [(4, 895), (10, 1903), (13, 9071)] _ (by kernel_rfl) (by simp) ?_
  simp only [wy, wq, simprocAttr]
  exact ⟨t895.h, t1903.h, t9071.h⟩
 ·refine hW.all 887 [(3, 895), (10, 1911), (13, 9079)] _ (by kernel_rfl) (by simp) ?_
  simp only [wy, wq, simprocAttr]
  exact ⟨⟨hS1, t895.h⟩, t1911.h, t9079.h⟩
 ·refine hW.all 1599 [(6, 1663), (8, 1855), (13, 9791)] _ (by kernel_rfl) (by simp) ?_
  simp only [wy, wq, simprocAttr]
  exact ⟨t1663.h, t1855.h, t9791.h⟩
 ·refine hW.all 1647 [(4, 1663), (8, 1903), (13, 9839)] _ (by kernel_rfl) (by simp) ?_
  simp only [wy, wq, simprocAttr]
  exact ⟨t1663.h, t1903.h, t9839.h⟩
 ·refine hW.all 1655 [(3, 1663), (8, 1911), (13, 9847)] _ (by kernel_rfl) (by simp) ?_
  simp only [wy, wq, simprocAttr]
  exact ⟨⟨hS1, t1663.h⟩, t1911.h, t9847.h⟩
 ·refine hW.all 1839 [(4, 1855), (6, 1903), (13, 10031)] _ (by kernel_rfl) (by simp) ?_
  simp only [wy, wq, simprocAttr]
  exact ⟨t1855.h, t1903.h, t10031.h⟩
 ·refine hW.all 1847 [(3, 1855), (6, 1911), (13, 10039)] _ (by kernel_rfl) (by simp) ?_
  simp only [wy, wq, simprocAttr]
  exact ⟨⟨hS1, t1855.h⟩, t1911.h, t10039.h⟩
 ·refine hW.all 1895 [(3, 1903), (4, 1911), (13, 10087)] _ (by kernel_rfl) (by simp) ?_
  simp only [wy, wq, simprocAttr]
  exact ⟨⟨hS1, t1903.h⟩, t1911.h, t10087.h⟩
 ·refine hW.all 1907 [(2, 1911), (13, 10099)] _ (by kernel_rfl) (by simp) ?_
  simp only [wy, wq, simprocAttr]
  exact ⟨t1911.h, t10099.h⟩
 ·refine hW.all 1910 [(0, 1911), (13, 10102)] _ (by kernel_rfl) (by simp) ?_
  simp only [wy, wq, simprocAttr]
  exact ⟨t1911.h, t10102.h⟩
 ·refine hW.all 8767 [(6, 8831), (8, 9023), (10, 9791)] _ (by kernel_rfl) (by simp) ?_
  simp only [wy, wq, simprocAttr]
  exact ⟨t8831.h, t9023.h, t9791.h⟩
 ·refine hW.all 8815 [(4, 8831), (8, 9071), (10, 9839)] _ (by kernel_rfl) (by simp) ?_
  simp only [wy, wq, simprocAttr]
  exact ⟨t8831.h, t9071.h, t9839.h⟩
 ·refine hW.all 8823 [(3, 8831), (8, 9079), (10, 9847)] _ (by kernel_rfl) (by simp) ?_
  simp only [wy, wq, simprocAttr]
  exact ⟨⟨hS1, t8831.h⟩, t9079.h, t9847.h⟩
 ·refine hW.all 9007 [(4, 9023), (6, 9071), (10, 10031)] _ (by kernel_rfl) (by simp) ?_
  simp only [wy, wq, simprocAttr]
  exact ⟨t9023.h, t9071.h, t10031.h⟩
 ·refine hW.all 9015 [(3, 9023), (6, 9079), (10, 10039)] _ (by kernel_rfl) (by simp) ?_
  simp only [wy, wq, simprocAttr]
  exact ⟨⟨hS1, t9023.h⟩, t9079.h, t10039.h⟩
 ·refine hW.all 9063 [(3, 9071), (4, 9079), (10, 10087)] _ (by kernel_rfl) (by simp) ?_
  simp only [wy, wq, simprocAttr]
  exact ⟨⟨hS1, t9071.h⟩, t9079.h, t10087.h⟩
 ·refine hW.all 9075 [(2, 9079), (10, 10099)] _ (by kernel_rfl) (by simp) ?_
  simp only [wy, wq, simprocAttr]
  exact ⟨t9079.h, t10099.h⟩
 ·refine hW.all 9078 [(0, 9079), (10, 10102)] _ (by kernel_rfl) (by simp) ?_
  simp only [wy, wq, simprocAttr]
  exact ⟨t9079.h, t10102.h⟩
 ·refine hW.all 9775 [(4, 9791), (6, 9839), (8, 10031)] _ (by kernel_rfl) (by simp) ?_
  simp only [wy, wq, simprocAttr]
  exact ⟨t9791.h, t9839.h, t10031.h⟩
 ·refine hW.all 9783 [(3, 9791), (6, 9847), (8, 10039)] _ (by kernel_rfl) (by simp) ?_
  simp only [wy, wq, simprocAttr]
  exact ⟨⟨hS1, t9791.h⟩, t9847.h, t10039.h⟩
 ·refine hW.all 9831 [(3, 9839), (4, 9847), (8, 10087)] _ (by kernel_rfl) (by simp) ?_
  simp only [wy, wq, simprocAttr]
  exact ⟨⟨hS1, t9839.h⟩, t9847.h, t10087.h⟩
 ·refine hW.all 9843 [(2, 9847), (8, 10099)] _ (by kernel_rfl) (by simp) ?_
  simp only [wy, wq, simprocAttr]
  exact ⟨t9847.h, t10099.h⟩
 ·refine hW.all 9846 [(0, 9847), (8, 10102)] _ (by kernel_rfl) (by simp) ?_
  simp only [wy, wq, simprocAttr]
  exact ⟨t9847.h, t10102.h⟩
 ·refine hW.all 10023 [(3, 10031), (4, 10039), (6, 10087)] _ (by kernel_rfl) (by simp) ?_
  simp only [wy, wq, simprocAttr]
  exact ⟨⟨hS1, t10031.h⟩, t10039.h, t10087.h⟩
 ·refine hW.all 10035 [(2, 10039), (6, 10099)] _ (by kernel_rfl) (by simp) ?_
  simp only [wy, wq, simprocAttr]
  exact ⟨t10039.h, t10099.h⟩
 ·refine hW.all 10038 [(0, 10039), (6, 10102)] _ (by kernel_rfl) (by simp) ?_
  simp only [wy, wq, simprocAttr]
  exact ⟨t10039.h, t10102.h⟩
 ·refine hW.all 10083 [(2, 10087), (4, 10099)] _ (by kernel_rfl) (by simp) ?_
  simp only [wy, wq, simprocAttr]
  exact ⟨t10087.h, t10099.h⟩
 ·refine hW.all 10086 [(0, 10087), (4, 10102)] _ (by kernel_rfl) (by simp) ?_
  simp only [wy, wq, simprocAttr]
  exact ⟨t10087.h, t10102.h⟩
 ·refine hW.all 10098 [(0, 10099), (2, 10102)] _ (by kernel_rfl) (by simp) ?_
  simp only [wy, wq, simprocAttr]
  exact ⟨t10099.h, t10102.h⟩
 ·refine hW.all 767 [(8, 1023), (10, 1791), (13, 8959)] _ (by kernel_rfl) (by simp) ?_
  simp only [wy, wq, simprocAttr]
  exact ⟨t1023.h, t1791.h, t8959.h⟩
 ·refine hW.all 895 [(7, 1023), (10, 1919), (13, 9087)] _ (by kernel_rfl) (by simp) ?_
  simp only [wy, wq, simprocAttr]
  exact ⟨⟨hS2, t1023.h⟩, t1919.h, t9087.h⟩
 ·refine hW.all 1663 [(7, 1791), (8, 1919), (13, 9855)] _ (by kernel_rfl) (by simp) ?_
  simp only [wy, wq, simprocAttr]
  exact ⟨⟨hS2, t1791.h⟩, t1919.h, t9855.h⟩
 ·refine hW.all 1855 [(6, 1919), (13, 10047)] _ (by kernel_rfl) (by simp) ?_
  simp only [wy, wq, simprocAttr]
  exact ⟨t1919.h, t10047.h⟩
 ·refine hW.all 1903 [(4, 1919), (13, 10095)] _ (by kernel_rfl) (by simp) ?_
  simp only [wy, wq, simprocAttr]
  exact ⟨t1919.h, t10095.h⟩
 ·refine hW.all 1911 [(3, 1919), (13, 10103)] _ (by kernel_rfl) (by simp) ?_
  simp only [wy, wq, simprocAttr]
  exact ⟨⟨hS1, t1919.h⟩, t10103.h⟩
 ·refine hW.all 8831 [(7, 8959), (8, 9087), (10, 9855)] _ (by kernel_rfl) (by simp) ?_
  simp only [wy, wq, simprocAttr]
  exact ⟨⟨hS2, t8959.h⟩, t9087.h, t9855.h⟩
 ·refine hW.all 9023 [(6, 9087), (10, 10047)] _ (by kernel_rfl) (by simp) ?_
  simp only [wy, wq, simprocAttr]
  exact ⟨t9087.h, t10047.h⟩
 ·refine hW.all 9071 [(4, 9087), (10, 10095)] _ (by kernel_rfl) (by simp) ?_
  simp only [wy, wq, simprocAttr]
  exact ⟨t9087.h, t10095.h⟩
 ·refine hW.all 9079 [(3, 9087), (10, 10103)] _ (by kernel_rfl) (by simp) ?_
  simp only [wy, wq, simprocAttr]
  exact ⟨⟨hS1, t9087.h⟩, t10103.h⟩
 ·refine hW.all 9791 [(6, 9855), (8, 10047)] _ (by kernel_rfl) (by simp) ?_
  simp only [wy, wq, simprocAttr]
  exact ⟨t9855.h, t10047.h⟩
 ·refine hW.all 9839 [(4, 9855), (8, 10095)] _ (by kernel_rfl) (by simp) ?_
  simp only [wy, wq, simprocAttr]
  exact ⟨t9855.h, t10095.h⟩
 ·refine hW.all 9847 [(3, 9855), (8, 10103)] _ (by kernel_rfl) (by simp) ?_
  simp only [wy, wq, simprocAttr]
  exact ⟨⟨hS1, t9855.h⟩, t10103.h⟩
 ·refine hW.all 10031 [(4, 10047), (6, 10095)] _ (by kernel_rfl) (by simp) ?_
  simp only [wy, wq, simprocAttr]
  exact ⟨t10047.h, t10095.h⟩
 ·refine hW.all 10039 [(3, 10047), (6, 10103)] _ (by kernel_rfl) (by simp) ?_
  simp only [wy, wq, simprocAttr]
  exact ⟨⟨hS1, t10047.h⟩, t10103.h⟩
 ·refine hW.all 10087 [(3, 10095), (4, 10103)] _ (by kernel_rfl) (by simp) ?_
  simp only [wy, wq, simprocAttr]
  exact ⟨⟨hS1, t10095.h⟩, t10103.h⟩
 ·refine hW.all 10099 [(2, 10103)] _ (by kernel_rfl) (by simp) ?_
  simp only [wy, wq, simprocAttr]
  exact t10103.h
 ·refine hW.all 10102 [(0, 10103)] _ (by kernel_rfl) (by simp) ?_
  simp only [wy, wq, simprocAttr]
  exact t10103.h
 ·refine hW.all 1023 [(10, 2047), (13, 9215)] _ (by kernel_rfl) (by simp) ?_
  simp only [wy, wq, simprocAttr]
  exact ⟨t2047.h, t9215.h⟩
 ·refine hW.all 1791 [(8, 2047), (13, 9983)] _ (by kernel_rfl) (by simp) ?_
  simp only [wy, wq, simprocAttr]
  exact ⟨t2047.h, t9983.h⟩
 ·refine hW.all 1919 [(7, 2047), (13, 10111)] _ (by kernel_rfl) (by simp) ?_
  simp only [wy, wq, simprocAttr]
  exact ⟨⟨hS2, t2047.h⟩, t10111.h⟩
 ·refine hW.all 8959 [(8, 9215), (10, 9983)] _ (by kernel_rfl) (by simp) ?_
  simp only [wy, wq, simprocAttr]
  exact ⟨t9215.h, t9983.h⟩
 ·refine hW.all 9087 [(7, 9215), (10, 10111)] _ (by kernel_rfl) (by simp) ?_
  simp only [wy, wq, simprocAttr]
  exact ⟨⟨hS2, t9215.h⟩, t10111.h⟩
 ·refine hW.all 9855 [(7, 9983), (8, 10111)] _ (by kernel_rfl) (by simp) ?_
  simp only [wy, wq, simprocAttr]
  exact ⟨⟨hS2, t9983.h⟩, t10111.h⟩
 ·refine hW.all 10047 [(6, 10111)] _ (by kernel_rfl) (by simp) ?_
  simp only [wy, wq, simprocAttr]
  exact t10111.h
 ·refine hW.all 10095 [(4, 10111)] _ (by kernel_rfl) (by simp) ?_
  simp only [wy, wq, simprocAttr]
  exact t10111.h
 ·refine hW.all 10103 [(3, 10111)] _ (by kernel_rfl) (by simp) ?_
  simp only [wy, wq, simprocAttr]
  exact ⟨hS1, t10111.h⟩
 ·refine hW.all 2047 [(11, 4095), (13, 10239)] _ (by kernel_rfl) (by simp) ?_
  simp only [wy, wq, simprocAttr]
  exact ⟨⟨hS3, t4095.h⟩, t10239.h⟩
 ·refine hW.all 9215 [(10, 10239)] _ (by kernel_rfl) (by simp) ?_
  simp only [wy, wq, simprocAttr]
  exact t10239.h
 ·refine hW.all 9983 [(8, 10239)] _ (by kernel_rfl) (by simp) ?_
  simp only [wy, wq, simprocAttr]
  exact t10239.h
 ·refine hW.all 10111 [(7, 10239)] _ (by kernel_rfl) (by simp) ?_
  simp only [wy, wq, simprocAttr]
  exact ⟨hS2, t10239.h⟩
 ·refine hW.all 4095 [(12, 8191), (13, 12287)] _ (by kernel_rfl) (by simp) ?_
  simp only [wy, wq, simprocAttr]
  exact ⟨t8191.h, t12287.h⟩
 ·refine hW.all 10239 [(11, 12287)] _ (by kernel_rfl) (by simp) ?_
  simp only [wy, wq, simprocAttr]
  exact ⟨hS3, t12287.h⟩
 ·refine hW.all 8191 [(13, 16383)] _ (by kernel_rfl) (by simp) ?_
  simp only [wy, wq, simprocAttr]
  exact t16383.h
 ·refine hW.all 12287 [(12, 16383)] _ (by kernel_rfl) (by simp) ?_
  simp only [wy, wq, simprocAttr]
  exact t16383.h
 ·refine hW.all 16383 [(14, 32767)] _ (by kernel_rfl) (by simp) ?_
  simp only [wy, wq, simprocAttr]
  exact t32767.h
 ·refine hW.done 32767 _ (by kernel_rfl) ?_
  exact tK.h
 refine hK _ ?_
 clear hW W hK K
 refine vthen_n ?_
 refine VW.retag (ι := Unit) (g := 3) (fun _ => fFab) _ rfl (fun w Z cs B h => ⟨(), h⟩) (fun j => by simp only [wq, simprocAttr]; rfl) (fun _ => ?_)
 repeat refine VW.seq ?_
 refine VW.regl hT fun K hK => ?_
 simp only [wq, simprocAttr]
 refine hK _ ?_
 clear hK K
 try refine vthen_n ?_
 repeat refine VW.seq ?_
 refine VW.block ?_
 refine VW.loop (α := Nat) [(1, none), (2, none), (3, none), (4, none)] (fun i => [D, .root (.box 32) sFi .fz (t, s, b, m, g), .root (.box 32) sFi .own ([], [], [], [], []), .root (.box 32) sFi fFab (t, s, b, m.take i, []), .v false (.int .i64) ((i : Nat)), D, D, D, D, D, D, D, D, D, D, D, D, D, D, D, D, D, D, D, D, D, D, D, D, D, D, D, D, D, D, D, D, D, D, D, D, D, D, D, D]) (fun i => i ≤ m.length) (fun i => m.length - i) ⟨0, by omega, ?_⟩ fun i hi => ?_
 ·simp only [wn, wq, simprocAttr]
  try rfl
 repeat refine VW.seq ?_
 refine VW.regl hT fun K hK => ?_
 simp only [wq, simprocAttr]
 refine hK _ ?_
 clear hK K
 try refine vthen_n ?_
 repeat refine VW.seq ?_
 refine VW.cond rfl (fun hc => ?_) (fun hc => ?_)
 ·have hlt : i < m.length := by simpa using hc
  have hI : decide (0 ≤ (i : Int) ∧ (i : Int) < (m.length : Int)) = true := decide_eq_true ⟨Int.natCast_nonneg _, by omega⟩
  have hei := he i
  have hA : limOk (m.getD i []).length 8 = true := by simp only [limOk]; exact decide_eq_true (by omega)
  have hB : limOk ((m.take i).length + 1) 24 = true := by simp only [limOk, List.length_take]; exact decide_eq_true (by omega)
  refine VW.skip (vthen_n ?_)
  repeat refine VW.seq ?_
  refine VW.block ?_
  repeat refine VW.seq ?_
  refine VW.any hT hm fun K hK W hW => ?_
  apply cutl; intro tK
  apply cutl; intro t8191
  apply cutl; intro t4095
  apply cutl; intro t1023
  apply cutl; intro t1021
  apply cutl; intro t511
  apply cutl; intro t509
  apply cutl; intro t255
  apply cutl; intro t253
  apply cutl; intro t251
  apply cutl; intro t127
  apply cutl; intro t249
  apply cutl; intro t125
  apply cutl; intro t123
  apply cutl; intro t63
  apply cutl; intro t121
  apply cutl; intro t61
  apply cutl; intro t59
  apply cutl; intro t47
  apply cutl; intro t57
  apply cutl; intro t45
  apply cutl; intro t43
  ·refine hW.takeF 0 0 1 _ (by kernel_rfl) ?_
   simp only [wy, wq, simprocAttr]
   refine hW.takeF 1 3 9 _ (by kernel_rfl) ?_
   simp only [wy, wq, simprocAttr]
   refine hW.take 9 5 41 _ (by kernel_rfl) ?_
   simp only [wy, wq, simprocAttr]
   refine hW.all 41 [(1, 43), (2, 45), (4, 57)] _ (by kernel_rfl) (by simp) ?_
   simp only [wy, wq, simprocAttr]
   exact ⟨t43.h, t45.h, t57.h⟩
  ·refine hW.all 43 [(2, 47), (4, 59)] _ (by kernel_rfl) (by simp) ?_
   simp only [wy, wq, simprocAttr]
   exact ⟨t47.h, t59.h⟩
  ·refine hW.all 45 [(1, 47), (4, 61)] _ (by kernel_rfl) (by simp) ?_
   simp only [wy, wq, simprocAttr]
   exact ⟨t47.h, t61.h⟩
  ·refine hW.all 57 [(1, 59), (2, 61), (6, 121)] _ (by kernel_rfl) (by simp) ?_
   simp only [wy, wq, simprocAttr]
   exact ⟨t59.h, t61.h, ⟨hI, t121.h⟩⟩
  ·refine hW.all 47 [(4, 63)] _ (by kernel_rfl) (by simp) ?_
   simp only [wy, wq, simprocAttr]
   exact t63.h
  ·refine hW.all 59 [(2, 63), (6, 123)] _ (by kernel_rfl) (by simp) ?_
   simp only [wy, wq, simprocAttr]
   exact ⟨t63.h, ⟨hI, t123.h⟩⟩
  ·refine hW.all 61 [(1, 63), (6, 125)] _ (by kernel_rfl) (by simp) ?_
   simp only [wy, wq, simprocAttr]
   exact ⟨t63.h, ⟨hI, t125.h⟩⟩
  ·refine hW.all 121 [(1, 123), (2, 125), (7, 249)] _ (by kernel_rfl) (by simp) ?_
   simp only [wy, wq, simprocAttr]
   exact ⟨t123.h, t125.h, t249.h⟩
  ·refine hW.all 63 [(6, 127)] _ (by kernel_rfl) (by simp) ?_
   simp only [wy, wq, simprocAttr]
   exact ⟨hI, t127.h⟩
  ·refine hW.all 123 [(2, 127), (7, 251)] _ (by kernel_rfl) (by simp) ?_
   simp only [wy, wq, simprocAttr]
   exact ⟨t127.h, t251.h⟩
  ·refine hW.all 125 [(1, 127), (7, 253)] _ (by kernel_rfl) (by simp) ?_
   simp only [wy, wq, simprocAttr]
   exact ⟨t127.h, t253.h⟩
  ·refine hW.all 249 [(1, 251), (2, 253)] _ (by kernel_rfl) (by simp) ?_
   simp only [wy, wq, simprocAttr]
   exact ⟨t251.h, t253.h⟩
  ·refine hW.all 127 [(7, 255)] _ (by kernel_rfl) (by simp) ?_
   simp only [wy, wq, simprocAttr]
   exact t255.h
  ·refine hW.all 251 [(2, 255)] _ (by kernel_rfl) (by simp) ?_
   simp only [wy, wq, simprocAttr]
   exact t255.h
  ·refine hW.all 253 [(1, 255), (8, 509)] _ (by kernel_rfl) (by simp) ?_
   simp only [wy, wq, simprocAttr]
   exact ⟨t255.h, ⟨hA, t509.h⟩⟩
  ·refine hW.all 255 [(8, 511)] _ (by kernel_rfl) (by simp) ?_
   simp only [wy, wq, simprocAttr]
   exact ⟨hA, t511.h⟩
  ·refine hW.all 509 [(1, 511), (9, 1021)] _ (by kernel_rfl) (by simp) ?_
   simp only [wy, wq, simprocAttr]
   exact ⟨t511.h, t1021.h⟩
  ·refine hW.all 511 [(9, 1023)] _ (by kernel_rfl) (by simp) ?_
   simp only [wy, wq, simprocAttr]
   exact t1023.h
  ·refine hW.all 1021 [(1, 1023)] _ (by kernel_rfl) (by simp) ?_
   simp only [wy, wq, simprocAttr]
   exact t1023.h
  ·refine hW.all 1023 [(10, 2047)] _ (by kernel_rfl) (by simp) ?_
   simp only [wy, wq, simprocAttr]
   skip
   refine ⟨hB, ?_⟩
   refine hW.takeF 2047 11 4095 _ (by kernel_rfl) ?_
   simp only [wy, wq, simprocAttr]
   exact t4095.h
  ·refine hW.all 4095 [(12, 8191)] _ (by kernel_rfl) (by simp) ?_
   simp only [wy, wq, simprocAttr]
   exact t8191.h
  ·refine hW.done 8191 _ (by kernel_rfl) ?_
   exact tK.h
  refine hK _ ?_
  clear hW W hK K
  show vthen _ _ _ .normal _
  refine vthen_n ?_
  repeat refine VW.seq ?_
  refine VW.regl hT fun K hK => ?_
  simp only [wq, simprocAttr]
  refine hK _ ?_
  clear hK K
  try refine vthen_n ?_
  refine ⟨i + 1, hlt, ?_, by show m.length - (i + 1) < m.length - i; omega⟩
  simp only [wn, wq, simprocAttr]
  rw [wrap64 (by omega) (by omega), show m.take (i + 1) = m.take i ++ [m.getD i []] from by rw [List.take_add_one, List.getElem?_eq_getElem hlt, List.getD_eq_getElem?_getD, List.getElem?_eq_getElem hlt]; rfl, show (i : Int) + 1 = ((i + 1 : Nat) : Int) by omega]
 ·have hge : i = m.length := by
   have hc : ¬ (i : Int) < (m.length : Int) := of_decide_eq_false hc
   omega
  subst hge
  rw [List.take_length]
  refine VW.exit ?_
  show vthen _ _ _ .normal _
  refine vthen_n ?_
  repeat refine VW.seq ?_
  refine VW.regl hT fun K hK => ?_
  simp only [wq, simprocAttr]
  refine ⟨by simp [limOk]; omega, ?_⟩
  refine hK _ ?_
  clear hK K
  try refine vthen_n ?_
  repeat refine VW.seq ?_
  refine VW.regl hT fun K hK => ?_
  simp only [wq, simprocAttr]
  refine hK _ ?_
  clear hK K
  try refine vthen_n ?_
  exact VW.ret ⟨.inl rfl, _, rfl, rfl⟩
end Go.Proofs.YtmechjnfeidnkaaGreat.V.W
end
section
namespace Go.Proofs.YtmechjnfeidnkaaGreat.V
open Go Go.RowKit
/-- a row's flag, its header known -/
def Tg (f : Fl) (n : Nat) (v : Value) : Prop := (∃ g c, f = .io g c ∧ v = .slice (some ⟨g, 0, none⟩) n c) ∨ ∃ A, f = .kz A 0 ∧ n = 0 ∧ v = .slice A 0 0
def TgS : (s : Sh) → Fl → s.ty → List Value → Prop
 | .pr a b, f, x, l => ∃ f1 f2 l1 l2, f = .pr f1 f2 ∧ l = l1 ++ l2 ∧ TgS a f1 x.1 l1 ∧ TgS b f2 x.2 l2
 | .sl _ s, f, xs, l => ∃ v, l = [v] ∧ Tg f (List.length (α := s.ty) xs) v
 | s, f, x, l => encI s f x = some l
theorem TgS.enc : ∀ {s : Sh} {f : Fl} {x : s.ty} {l : List Value}, TgS s f x l → encI s f x = some l
 | .unit, _, _, _, h => h
 | .int _, _, _, _, h => h
 | .bool, _, _, _, h => h
 | .str, _, _, _, h => h
 | .pr a b, f, x, l, ⟨f1, f2, l1, l2, e1, e2, h1, h2⟩ => by
  subst e1; subst e2
  simp only [encI, Fl.l, Fl.r, h1.enc, h2.enc]
 | .sl e s, f, xs, l, ⟨v, e1, h⟩ => by
  subst e1
  rcases h with ⟨g, c, rfl, rfl⟩ | ⟨A, rfl, h0, rfl⟩
  ·rfl
  ·show some [Value.slice A (List.length (α := s.ty) xs) 0] = _
   rw [h0]
theorem Rep.tagE {w : World} {Z : Nat → Prop} : ∀ {s : Sh} {f : Fl} {x : s.ty} {cs : List Value} {B : Nat → Prop}, Fl.allown s f = true → Rep w Z s f x cs B → ∃ fi, TgS s fi x cs ∧ Rep w Z s fi x cs B
 | .unit, f, _, _, _, _, h => ⟨f, by have h : _ = [] := h; rw [h]; rfl, h⟩
 | .int _, f, _, _, _, _, h => ⟨f, by have h : _ = [_] := h; rw [h]; rfl, h⟩
 | .bool, f, _, _, _, _, h => ⟨f, by have h : _ = [_] := h; rw [h]; rfl, h⟩
 | .str, f, _, _, _, _, h => ⟨f, by have h : _ = [_] := h; rw [h]; rfl, h⟩
 | .pr a b, f, x, cs, B, k, ⟨c1, c2, B1, B2, h0, h1, h2, h3, h4, h5⟩ => by
  simp only [Fl.allown, Bool.and_eq_true] at k
  obtain ⟨g1, m1, m2⟩ := h4.tagE k.1
  obtain ⟨g2, m3, m4⟩ := h5.tagE k.2
  exact ⟨.pr g1 g2, ⟨g1, g2, c1, c2, rfl, h0, m1, m3⟩, c1, c2, B1, B2, h0, h1, h2, h3, m2, m4⟩
 | .sl e s, f, xs, cs, B, k, h => by
  cases f with
  | own =>
   rcases id h with ⟨A, hc, hx⟩ | ⟨g, cap, cur, rows, Bs, hc, _⟩
   ·have hx : (xs : List s.ty) = [] := hx
    subst hx
    refine ⟨.kz A 0, ⟨_, hc, .inr ⟨A, rfl, rfl, rfl⟩⟩, ⟨A, 0, hc, Nat.le_refl _, Nat.zero_le _, fun hp => by simp at hp⟩, hc⟩
   ·exact ⟨.io g cap, ⟨_, hc, .inl ⟨g, cap, rfl, rfl⟩⟩, h, hc⟩
  | _ => simp [Fl.allown] at k
section
variable {P : Program} {T : List (Nat × TI)}
end
end Go.Proofs.YtmechjnfeidnkaaGreat.V
end
section
namespace Go.Proofs.YtmechjnfeidnkaaGreat.V.W
open Go Go.RowKit
end Go.Proofs.YtmechjnfeidnkaaGreat.V.W
end
section
namespace Go.Proofs.YtmechjnfeidnkaaGreat.V
open Go Go.RowKit
/-- what lies at a place is changed by what the code does there -/
theorem Rel.turnP {L : Lay} {st : St} {a : Act} {w w' : World} (h : Rel L st a w Free) {g : Nat} {p : Path} {s : Sh} {cs1 : List Value} {ad1 : Option Addr} {fl f' : Fl} {x x' : s.ty} (hP : Place L st w g p s cs1 ad1) (hl : look st g p = some ⟨s, fl, x⟩) {st1 st2 : St} (hj : V.put st g p s .junk x hitS = some st1) (hput : V.put st1 g p s f' x' hitS = some st2)
  (hw : ∀ B : Nat → Prop, Rep w L.Z s fl x cs1 B → (∀ b, B b → L.F g b) → ExtF w w' B ∧ Rep w' L.Z s f' x' cs1 B) : ∃ L', Stp L L' w w' ∧ Rel L' st2 a w' Free := by
 obtain ⟨k, s0, f0, x0, hg, hOk, hget, hsub⟩ := id hP
 obtain ⟨f1, x1, e1, B1, e2, e3, e4, e5, e6⟩ := h.put hg hP
 have hl' : get s0 f0 x0 p = some ⟨s, fl, x⟩ := by unfold look at hl; rw [hg] at hl; exact hl
 rw [hl'] at e1
 cases Option.some.inj e1
 obtain ⟨hx, hR⟩ := hw B1 e3 e2
 obtain ⟨f3, x3, hu, hst1⟩ := put_spec hg hj
 have r1 := e6 w cs1 .junk x (fun _ => False) B1 f3 x3 hitS (.inl ⟨rfl, rfl⟩) rfl e3.tojunk (fun _ h => h.elim) (fun b hb => ⟨.inr hb, id⟩) hu (.inr ⟨rfl, rfl⟩)
 rw [← hst1] at r1
 generalize hL1 : (⟨L.Z, fun t b => if t = g then (L.F g b ∧ ¬ B1 b) ∨ False else L.F t b, fun t => if t = g then csub s0 (L.C g) p cs1 else L.C t, L.D⟩ : Lay) = L1 at r1
 have hL1F : ∀ t n, L1.F t n → L.F t n := by
  intro t n hn
  rw [← hL1] at hn
  simp only at hn
  split at hn
  ·rename_i e; subst e; exact hn.elim (fun q => q.1) False.elim
  ·exact hn
 have hL1Z : L1.Z = L.Z := by rw [← hL1]
 have hg1 : st1.at g = .root k s0 f3 x3 := by
  rw [hst1, St.at_set, if_pos ⟨rfl, by rw [List.length_map]; exact root_lt hg⟩]
 obtain ⟨w1, f4, x4, w2⟩ := upd_other p p hu (below_self p) hOk hl'
 have hP1 : Place L1 st1 w g p s cs1 ad1 := by
  refine ⟨k, s0, f3, x3, hg1, w1, ⟨f4, x4, w2⟩, ?_⟩
  rw [← hL1]
  simp only [if_true]
  rw [csub_self p hsub]
  exact hsub
 have hnF : ∀ n, B1 n → ¬ L1.Z n ∧ ∀ t, ¬ L1.F t n := fun n hn => ⟨(r1.rlt n hn).2, fun t ht => r1.rdj t n ht hn⟩
 have r2 : Rel L1 st1 a w' B1 := r1.extF hx hnF
 have hP2 : Place L1 st1 w' g p s cs1 ad1 := hP1.ext r1 (fun n hn => hx.block n (by
  rcases hn with hn | ⟨t, hn⟩
  ·exact r1.zlt n hn
  ·exact (r1.flt t n hn).1) (fun hB => by
  rcases hn with hn | ⟨t, hn⟩
  ·exact (hnF n hB).1 hn
  ·exact (hnF n hB).2 t hn))
 obtain ⟨f5, x5, d1, B5, d2, d3, d4, d5, d6⟩ := r2.put hg1 hP2
 obtain ⟨f6, x6, hu2, hst2⟩ := put_spec hg1 hput
 have r3 := d6 w' cs1 f' x' B1 Free f6 x6 hitS (.inl ⟨rfl, rfl⟩) rfl (by rw [hL1Z]; exact hR) (fun n hn => .inl hn) (fun n hn => hn.elim) hu2 (.inr ⟨rfl, rfl⟩)
 rw [← hst2] at r3
 refine ⟨_, ?_, r3⟩
 refine ⟨hx.os, hx.tape, hx.output, hx.size, fun n hn hL => hx.block n hn (fun hB => hL g (e2 n hB)), hL1Z, fun t n hn => ?_⟩
 simp only at hn
 split at hn
 ·rcases hn with hn | hn
  ·exact .inl ⟨g, hL1F g n hn.1⟩
  ·exact .inl ⟨g, e2 n hn⟩
 ·exact .inl ⟨t, hL1F t n hn⟩
theorem sub_at {w : World} (r : Path) : ∀ (q : Path) {s : Sh} {cs : List Value} {ad : Option Addr} {f : Fl} {x : s.ty} {s1 : Sh} {f1 : Fl} {x1 : s1.ty} {cs1 : List Value} {ad1 : Option Addr}, get s f x q = some ⟨s1, f1, x1⟩ → sub w s cs ad q = some (cs1, ad1) → sub w s cs ad (q ++ r) = sub w s1 cs1 ad1 r := by
 intro q
 induction q with
 | nil =>
  intro s cs ad f x s1 f1 x1 cs1 ad1 h1 h2
  rw [get_nil] at h1
  rw [sub_nil] at h2
  cases Option.some.inj h1
  cases Option.some.inj h2
  rfl
 | cons t q ih =>
  intro s cs ad f x s1 f1 x1 cs1 ad1 h1 h2
  cases s with
  | pr a b => cases t with
   | l => simp only [get] at h1; simp only [sub] at h2; exact ih h1 h2
   | r => simp only [get] at h1; simp only [sub] at h2; exact ih h1 h2
   | el i => simp [get] at h1
  | sl e s => cases t with
   | l => simp [get] at h1
   | r => simp [get] at h1
   | el i =>
    simp only [sub] at h2
    split at h2
    ·rename_i ad2 n c
     show sub w s _ _ (q ++ r) = _
     cases f with
     | own => exact ih h1 h2
     | ownf => exact ih h1 h2
     | io n c => exact ih h1 h2
     | _ => simp [get] at h1
    ·cases h2
  | _ => cases t <;> simp [get] at h1
section
variable {P : Program} {T : List (Nat × TI)}
/-- a[lo:] of a row of a row of rows, numbers copied into it -/
theorem does2_copy (hT : TabOk P T) {o1 o2 : Oper} {t e e2 : TypeId} {bb nf : Nat} {fs : List (Bool × Sh)} {cm : Bool} {ats : Array TypeId} {st st1 st2 : St} {g j lo rs es ls dr d1 d2 : Nat} {q : Path} {m : List (List Int)} {ys : List Int}
  (ht : tget T t = some ⟨.sl e (.int .i64), false, bb, nf, fs, cm⟩) (e1 : o1.op = .slice t (.tmp es) (some (.tmp ls)) none none) (k1 : o1.dst = some d1) (e2' : o2.op = .call ⟨.builtin .copy, #[.tmp d1, .tmp dr], ats⟩) (e3 : ats = #[t, t]) (k2 : o2.dst = some d2)
  (hr : ref st (.tmp rs) = .h false g q) (he : ref st (.tmp es) = .h false g (q ++ [.el j])) (hl : ref st (.tmp ls) = .v false (.int .i64) (lo : Int)) (hd : ref st (.tmp dr) = .v false (.sl e (.int .i64)) ys)
  (hlook : look st g q = some ⟨.sl e2 (.sl e (.int .i64)), .own, m⟩) (hj : j < m.length) (hy1 : 1 ≤ ys.length) (hy : lo + ys.length ≤ (m.getD j []).length)
  (h1 : put st g q (.sl e2 (.sl e (.int .i64))) .junk m hitS = some st1) (h2 : put st1 g q (.sl e2 (.sl e (.int .i64))) .own (m.set j ((m.getD j []).take lo ++ ys ++ (m.getD j []).drop (lo + ys.length))) hitS = some st2)
  (s1 : st.set d1 .dead = st) (s2 : st2.set d2 .dead = st2) (hn1 : st.at d1 = .dead) (hn2 : st2.at d2 = .dead) (hd12 : dr ≠ d1) (hdl : d1 < st.length) : Does2 P o1 o2 st st2 := by
 intro L a w next Q h hk
 obtain ⟨hu, ti, z, i1, i2, i3, i4, hpos⟩ := (hT t _ ht).sl e (.int .i64) rfl rfl
 have i2 : ti.size = 1 := i2
 have hz : ∀ w, (sizeOf e).run P w = .ok 1 w := fun w => by rw [run_size i1, i2]
 have vr := h.opnd (.tmp rs)
 rw [hr] at vr
 obtain ⟨sq, cs1, ad1, hP, hm1, _⟩ := vr
 obtain rfl := hP.shape hlook
 have hcs1 : cs1 = [a.eval (.tmp rs)] := by simpa [mkV] using hm1
 have ve := h.opnd (.tmp es)
 rw [he] at ve
 obtain ⟨s9, cs9, ad9, hP9, hm9, _⟩ := ve
 have hcs9 : cs9 = [a.eval (.tmp es)] := by simpa [mkV] using hm9
 have vl : a.eval (.tmp ls) = .int .i64 (lo : Int) := by
  have := h.opnd (.tmp ls)
  rw [hl] at this
  exact this.int
 obtain ⟨csd, md, rd⟩ : ∃ cs, mkV false cs (a.eval (.tmp dr)) ∧ Rep w L.Z (.sl e (.int .i64)) .fz ys cs (fun _ => False) := by
  have := h.opnd (.tmp dr)
  rw [hd] at this
  exact this
 obtain rfl : csd = [a.eval (.tmp dr)] := by simpa [mkV] using md
 obtain ⟨k, s0, f0, x0, hg, hOk, hget, hsub⟩ := id hP
 obtain ⟨k', s0', f0', x0', hg', hOk', hget', hsub'⟩ := id hP9
 rw [hg] at hg'
 cases hg'
 have hl' : get s0 f0 x0 q = some ⟨.sl e2 (.sl e (.int .i64)), .own, m⟩ := by unfold look at hlook; rw [hg] at hlook; exact hlook
 rw [sub_at [.el j] q hl' hsub, hcs1, hcs9] at hsub'
 obtain ⟨f1, x1, b1, B1, b2, b3, _⟩ := h.put hg hP
 rw [hl'] at b1
 cases Option.some.inj b1
 have hF : ∀ b, L.F g b → b < w.heap.size := fun b hb => (h.flt g b hb).1
 have el : ∀ B : Nat → Prop, Rep w L.Z (.sl e2 (.sl e (.int .i64))) .own m cs1 B → (∀ b, B b → L.F g b) → ∃ Bi : Nat → Prop, (∀ b, Bi b → B b) ∧ Rep w L.Z (.sl e (.int .i64)) .own (m.getD j []) [a.eval (.tmp es)] Bi ∧
   ∀ (w' : World) (y : List Int), ExtF w w' Bi → Rep w' L.Z (.sl e (.int .i64)) .own y [a.eval (.tmp es)] Bi → Rep w' L.Z (.sl e2 (.sl e (.int .i64))) .own (m.set j y) cs1 B := fun B hB hBF => by
  rw [hcs1] at hB ⊢
  obtain ⟨A, c, u, Bi, u1, u2, u3, u4, u5⟩ := own_el (e := e2) (e2 := e) (s2 := .int .i64) hj (fun b hb => hF b (hBF b hb)) hB
  have hu' : [u] = [a.eval (.tmp es)] := by
   rw [u1] at hsub'
   simp only [sub] at hsub'
   have h9 : rowCells w (A.add (j * (Sh.sl e (.int .i64)).size)) (Sh.sl e (.int .i64)).size = [u] := u2
   rw [h9] at hsub'
   exact (Prod.mk.inj (Option.some.inj hsub')).1
  rw [hu'] at u4 u5
  refine ⟨Bi, u3, u4, fun w' y hx hy => ?_⟩
  have := u5 w' y Bi hx hy (fun b hb => .inl hb) (fun b hb => ⟨h.zlt b hb, fun hB' => (h.flt g b (hBF b hB')).2 hb⟩)
  have hp : (fun b => (B b ∧ ¬ Bi b) ∨ Bi b) = B := by
   funext b
   exact propext ⟨fun q => q.elim (fun q => q.1) (u3 b), fun q => (Classical.em (Bi b)).elim .inr fun k => .inl ⟨q, k⟩⟩
  rw [hp] at this
  exact this
 obtain ⟨Bi, _, v2, _⟩ := el B1 b3 b2
 obtain ⟨A, c, hval, hcap, _⟩ := OwnR.take v2
 have hcap : (m.getD j []).length ≤ c := hcap
 refine ⟨sliced A lo (m.getD j []).length c 1, ?_, ?_⟩
 ·have hlo : lo ≤ (m.getD j []).length := by omega
  generalize (m.getD j []).length = N at *
  simp [execOp, e1, vl, hval, run_slice_gen (P := P) hu hz A N c (some (.int .i64 (lo : Int))) none lo N (.inr ⟨_, rfl⟩) (.inl ⟨rfl, rfl⟩) hlo hcap]
 have r0 := h.setO (d := d1) (v := sliced A lo (m.getD j []).length c 1) (by rw [hn1]; rfl) (pv := .dead) rfl trivial
 rw [s1] at r0
 have hsz : d1 < a.tmps.size := by rw [h.size]; exact hdl
 have y1 : (a.put (some d1) (sliced A lo (m.getD j []).length c 1)).eval (.tmp d1) = sliced A lo (m.getD j []).length c 1 := by
  have := getD_put (t := d1) (v := sliced A lo (m.getD j []).length c 1) hsz
  rw [if_pos rfl] at this
  exact this
 have y2 : (a.put (some d1) (sliced A lo (m.getD j []).length c 1)).eval (.tmp dr) = a.eval (.tmp dr) := by
  have := getD_put (t := dr) (v := sliced A lo (m.getD j []).length c 1) hsz
  rw [if_neg hd12] at this
  exact this
 rw [k1]
 generalize a.put (some d1) (sliced A lo (m.getD j []).length c 1) = a1 at r0 y1 y2 ⊢
 obtain ⟨g1, g2⟩ := run_headFz (P := P) hy1 (Nat.le_refl _) rd
 rw [List.take_length] at g2
 have go : ∀ B : Nat → Prop, Rep w L.Z (.sl e2 (.sl e (.int .i64))) .own m cs1 B → (∀ b, B b → L.F g b) → ∃ w', (Builtin.copy_ ats o2.type #[sliced A lo (m.getD j []).length c 1, a.eval (.tmp dr)]).run P w = .ok (goInt ys.length) w' ∧ ExtF w w' B ∧ Rep w' L.Z (.sl e2 (.sl e (.int .i64))) .own (m.set j ((m.getD j []).take lo ++ ys ++ (m.getD j []).drop (lo + ys.length))) cs1 B := fun B hB hBF => by
  obtain ⟨Bi, w1, w2, w3⟩ := el B hB hBF
  obtain ⟨w', c1, c2, c3, c4⟩ := run_copyInts (P := P) (ats := ats) (ty := o2.type) (ys := ys) (i := lo) hu (by rw [e3]; rfl) i1 i2 w2 hval hy hy1 (by show min ys.length ((m.getD j []).length - lo) = ys.length; omega) g1 g2
  exact ⟨w', c1, ⟨c2.os, c2.tape, c2.output, c2.size, fun b hb hn => c2.block b hb (fun k => hn (w1 b k))⟩, w3 w' _ c2 c4⟩
 obtain ⟨w', c1, c2, c3⟩ := go B1 b3 b2
 have x2 : (execOp a1.eval o2).run P w = .ok (.value (goInt ys.length)) w' := by
  have hb : ∀ cs u v, builtin .copy ats o2.type cs #[u, v] = (do pure (.value (← Builtin.copy_ ats o2.type #[u, v]))) := fun cs u v => rfl
  generalize sliced A lo (m.getD j []).length c 1 = V at y1 c1
  simp [execOp, e2', resolve, invoke, y1, y2, hb, c1]
 obtain ⟨L', z1, z2⟩ := r0.turnP hP hlook h1 h2 (w' := w') fun B hB hBF => by
  obtain ⟨w9, y1, y2, y3⟩ := go B hB hBF
  rw [c1] at y1
  obtain rfl : w' = w9 := by injection y1
  exact ⟨y2, y3⟩
 unfold Oper.wp
 rw [x2, Oper.upon_value, k2]
 have z3 := z2.setO (d := d2) (v := goInt ys.length) (by rw [hn2]; rfl) (pv := .dead) rfl trivial
 rw [s2] at z3
 exact hk L' _ w' z1 z3
end
end Go.Proofs.YtmechjnfeidnkaaGreat.V
end
section
namespace Go.Proofs.YtmechjnfeidnkaaGreat.V.W
open Go Go.RowKit
/-- a row with words laid over it -/
def over (row : List Int) (lo : Nat) (d : List Int) : List Int := row.take lo ++ d ++ row.drop (lo + d.length)
/-- what is stored -/
def storeW (x : Fab) (fr a : Int) (d : List Int) : Fab × Int :=
 if words d = true then
  if (targetOf x fr a d.length).2 = 0 then
   ((x.1, x.2.1, x.2.2.1, x.2.2.2.1.set (targetOf x fr a d.length).1.toNat (over (x.2.2.2.1.getD (targetOf x fr a d.length).1.toNat []) (IntKind.i64.wrap (a - (x.2.2.1.getD (targetOf x fr a d.length).1.toNat zb).2)).toNat d), x.2.2.2.2), 0)
  else (x, (targetOf x fr a d.length).2)
 else (x, 1)
abbrev rFI (p : Fab × Int) : PV := .root (.tup [true, false]) (.pr sFi (.int .i64)) (.pr fFab .fz) p
set_option maxRecDepth 20000 in
set_option maxHeartbeats 4000000 in
theorem storeWords_vc (x : Fab) (fr a : Int) (d : List Int) (hx : FabL x) (hgl : x.2.2.2.2.length ≤ 2000000) (ha : a ≤ 9223372036854775807) (hd : d.length ≤ 2000000) : VC Tryz.prog 17 [.v true sFi x, .v false (.int .i64) (fr), .v false (.int .i64) (a), .v false sI d] (· = rFI (storeW x fr a d)) := by
 refine VC.of_body hT Tryz.func17 rfl (by kernel_rfl) [(.cell 8 32, true, sFi), (.tmp 9, false, .int .i64)] (by kernel_rfl) ?_
 have htv := targetOf_vc x fr a d.length hx
 have hcp := copyFabric_vc x hx hgl
 generalize hr : storeW x fr a d = r
 rw [storeW] at hr
 obtain ⟨t, s, b, m, g⟩ := x
 have hg : ∀ k : Int, targetOf (t, s, b, m, g) fr a d.length = (k, 0) → _ := fun k h => target_good h ha
 generalize targetOf (t, s, b, m, g) fr a d.length = p at *
 obtain ⟨k, c⟩ := p
 show VW _ _ ([.v true sFi (t, s, b, m, g), .v false (.int .i64) (fr), .v false (.int .i64) (a), .v false sI d, D, D, D, D, D, D, D, D, D, D, D, D, D, D, D, D, D, D, D, D, D, D, D, D, D, D, D, D, D, D, D, D, D, D, D, D, D, D, D, D, D, D, D, D]) _
 repeat refine VW.seq ?_
 refine VW.regl hT fun K hK => ?_
 simp only [wq, simprocAttr]
 refine hK _ ?_
 clear hK K
 try refine vthen_n ?_
 repeat refine VW.seq ?_
 refine VW.regl hT fun K hK => ?_
 simp only [wq, simprocAttr]
 refine vcall_of hcp ?_
 simp only [wq, simprocAttr]
 refine hK _ ?_
 clear hK K
 try refine vthen_n ?_
 repeat refine VW.seq ?_
 refine VW.regl hT fun K hK => ?_
 simp only [wq, simprocAttr]
 refine vcall_of (areWords_vc d hd) ?_
 simp only [wq, simprocAttr]
 refine hK _ ?_
 clear hK K
 try refine vthen_n ?_
 repeat refine VW.seq ?_
 refine VW.cond rfl (fun hc => ?_) (fun hc => ?_)
 ·have hc : words d = false := (Bool.not_eq_true' _).mp hc
  repeat refine VW.seq ?_
  refine VW.regl hT fun K hK => ?_
  simp only [wq, simprocAttr]
  refine hK _ ?_
  clear hK K
  try refine vthen_n ?_
  refine VW.ret ⟨.inl rfl, _, rfl, ?_⟩
  rw [← hr, if_neg (by rw [hc]; decide)]
 have hc : words d = true := by
  have := hc
  rwa [Bool.not_eq_false'] at this
 rw [if_pos hc] at hr
 refine VW.skip (vthen_n ?_)
 repeat refine VW.seq ?_
 refine VW.regl hT fun K hK => ?_
 simp only [wq, simprocAttr]
 refine vcall_of htv ?_
 simp only [wq, simprocAttr]
 refine hK _ ?_
 clear hK K
 try refine vthen_n ?_
 repeat refine VW.seq ?_
 refine VW.regl hT fun K hK => ?_
 simp only [wq, simprocAttr]
 refine hK _ ?_
 clear hK K
 try refine vthen_n ?_
 repeat refine VW.seq ?_
 refine VW.cond rfl (fun hc => ?_) (fun hc => ?_)
 case refine_2 =>
  rw [if_neg (by simpa using hc)] at hr
  refine VW.skip ?_
  show vthen _ _ _ .normal _
  refine vthen_n ?_
  repeat refine VW.seq ?_
  refine VW.regl hT fun K hK => ?_
  simp only [wq, simprocAttr]
  refine hK _ ?_
  clear hK K
  try refine vthen_n ?_
  refine VW.ret ⟨.inl rfl, _, rfl, ?_⟩
  rw [← hr]
 have hc : c = 0 := by simpa using hc
 subst hc
 rw [if_pos rfl] at hr
 obtain ⟨j, lo, n, rfl, hdn, h1, h2, h3, h4, h5, h6, hf⟩ := hg k rfl
 obtain rfl : d.length = n := by omega
 have hr : ((t, s, b, m.set ((j : Int)).toNat (over (m.getD ((j : Int)).toNat []) (IntKind.i64.wrap (a - (b.getD ((j : Int)).toNat zb).2)).toNat d), g), (0 : Int)) = r := hr
 rw [Int.toNat_natCast, h3, Int.toNat_natCast] at hr
 have hJ : decide (0 ≤ (j : Int) ∧ (j : Int) < (m.length : Int)) = true := decide_eq_true ⟨Int.natCast_nonneg _, by omega⟩
 have hJb : decide (0 ≤ (j : Int) ∧ (j : Int) < (b.length : Int)) = true := decide_eq_true ⟨Int.natCast_nonneg _, by omega⟩
 repeat refine VW.seq ?_
 refine VW.any hT hm fun K hK W hW => ?_
 apply cutl; intro tK
 apply cutl; intro t65535
 apply cutl; intro t24575
 apply cutl; intro t24559
 apply cutl; intro t20479
 apply cutl; intro t24551
 apply cutl; intro t20463
 apply cutl; intro t18431
 apply cutl; intro t24549
 apply cutl; intro t20455
 apply cutl; intro t18415
 apply cutl; intro t17407
 apply cutl; intro t20453
 apply cutl; intro t18407
 apply cutl; intro t17391
 apply cutl; intro t16895
 apply cutl; intro t18405
 apply cutl; intro t17383
 apply cutl; intro t16879
 apply cutl; intro t16767
 apply cutl; intro t17381
 apply cutl; intro t16871
 apply cutl; intro t16751
 apply cutl; intro t16869
 apply cutl; intro t16743
 ·refine hW.takeF 0 0 1 _ (by kernel_rfl) ?_
  simp only [wy, wq, simprocAttr]
  refine hW.take 1 2 5 _ (by kernel_rfl) ?_
  simp only [wy, wq, simprocAttr]
  refine hW.take 5 5 37 _ (by kernel_rfl) ?_
  simp only [wy, wq, simprocAttr]
  refine hW.takeF 37 6 101 _ (by kernel_rfl) ?_
  simp only [wy, wq, simprocAttr]
  refine hW.take 101 8 357 _ (by kernel_rfl) ?_
  simp only [wy, wq, simprocAttr]
  refine hW.take 357 14 16741 _ (by kernel_rfl) ?_
  simp only [wy, wq, simprocAttr]
  refine hW.all 16741 [(1, 16743), (7, 16869)] _ (by kernel_rfl) (by simp) ?_
  simp only [wy, wq, simprocAttr]
  exact ⟨t16743.h, t16869.h⟩
 ·refine hW.all 16743 [(3, 16751), (7, 16871)] _ (by kernel_rfl) (by simp) ?_
  simp only [wy, wq, simprocAttr]
  exact ⟨⟨hJ, t16751.h⟩, t16871.h⟩
 ·refine hW.all 16869 [(1, 16871), (9, 17381)] _ (by kernel_rfl) (by simp) ?_
  simp only [wy, wq, simprocAttr]
  exact ⟨t16871.h, ⟨hJb, t17381.h⟩⟩
 ·refine hW.all 16751 [(4, 16767), (7, 16879)] _ (by kernel_rfl) (by simp) ?_
  simp only [wy, wq, simprocAttr]
  exact ⟨t16767.h, t16879.h⟩
 ·refine hW.all 16871 [(3, 16879), (9, 17383)] _ (by kernel_rfl) (by simp) ?_
  simp only [wy, wq, simprocAttr]
  exact ⟨⟨hJ, t16879.h⟩, ⟨hJb, t17383.h⟩⟩
 ·refine hW.all 17381 [(1, 17383), (10, 18405)] _ (by kernel_rfl) (by simp) ?_
  simp only [wy, wq, simprocAttr]
  exact ⟨t17383.h, t18405.h⟩
 ·refine hW.all 16767 [(7, 16895)] _ (by kernel_rfl) (by simp) ?_
  simp only [wy, wq, simprocAttr]
  exact t16895.h
 ·refine hW.all 16879 [(4, 16895), (9, 17391)] _ (by kernel_rfl) (by simp) ?_
  simp only [wy, wq, simprocAttr]
  exact ⟨t16895.h, ⟨hJb, t17391.h⟩⟩
 ·refine hW.all 17383 [(3, 17391), (10, 18407)] _ (by kernel_rfl) (by simp) ?_
  simp only [wy, wq, simprocAttr]
  exact ⟨⟨hJ, t17391.h⟩, t18407.h⟩
 ·refine hW.all 18405 [(1, 18407), (11, 20453)] _ (by kernel_rfl) (by simp) ?_
  simp only [wy, wq, simprocAttr]
  exact ⟨t18407.h, t20453.h⟩
 ·refine hW.all 16895 [(9, 17407)] _ (by kernel_rfl) (by simp) ?_
  simp only [wy, wq, simprocAttr]
  exact ⟨hJb, t17407.h⟩
 ·refine hW.all 17391 [(4, 17407), (10, 18415)] _ (by kernel_rfl) (by simp) ?_
  simp only [wy, wq, simprocAttr]
  exact ⟨t17407.h, t18415.h⟩
 ·refine hW.all 18407 [(3, 18415), (11, 20455)] _ (by kernel_rfl) (by simp) ?_
  simp only [wy, wq, simprocAttr]
  exact ⟨⟨hJ, t18415.h⟩, t20455.h⟩
 ·refine hW.all 20453 [(1, 20455), (12, 24549)] _ (by kernel_rfl) (by simp) ?_
  simp only [wy, wq, simprocAttr]
  exact ⟨t20455.h, t24549.h⟩
 ·refine hW.all 17407 [(10, 18431)] _ (by kernel_rfl) (by simp) ?_
  simp only [wy, wq, simprocAttr]
  exact t18431.h
 ·refine hW.all 18415 [(4, 18431), (11, 20463)] _ (by kernel_rfl) (by simp) ?_
  simp only [wy, wq, simprocAttr]
  exact ⟨t18431.h, t20463.h⟩
 ·refine hW.all 20455 [(3, 20463), (12, 24551)] _ (by kernel_rfl) (by simp) ?_
  simp only [wy, wq, simprocAttr]
  exact ⟨⟨hJ, t20463.h⟩, t24551.h⟩
 ·refine hW.all 24549 [(1, 24551)] _ (by kernel_rfl) (by simp) ?_
  simp only [wy, wq, simprocAttr]
  exact t24551.h
 ·refine hW.all 18431 [(11, 20479)] _ (by kernel_rfl) (by simp) ?_
  simp only [wy, wq, simprocAttr]
  exact t20479.h
 ·refine hW.all 20463 [(4, 20479), (12, 24559)] _ (by kernel_rfl) (by simp) ?_
  simp only [wy, wq, simprocAttr]
  exact ⟨t20479.h, t24559.h⟩
 ·refine hW.all 24551 [(3, 24559)] _ (by kernel_rfl) (by simp) ?_
  simp only [wy, wq, simprocAttr]
  exact ⟨hJ, t24559.h⟩
 ·refine hW.all 20479 [(12, 24575)] _ (by kernel_rfl) (by simp) ?_
  simp only [wy, wq, simprocAttr]
  exact t24575.h
 ·refine hW.all 24559 [(4, 24575)] _ (by kernel_rfl) (by simp) ?_
  simp only [wy, wq, simprocAttr]
  exact t24575.h
 ·refine hW.two 24575 13 15 65535 _ ?s2 _ _ rfl rfl rfl rfl (by kernel_rfl) (does2_copy hT (st1 := ?s1) (st2 := ?s2) (g := 10) (j := j) (lo := lo) (rs := 31) (es := 34) (ls := 42) (dr := 44) (d1 := 43) (d2 := 45) (q := [.r, .r, .r, .l]) (m := m) (ys := d) rfl rfl rfl rfl rfl rfl rfl rfl ?hl rfl rfl h1 h4 h5 ?h1 ?h2 rfl ?hs rfl ?hn (by decide) (Nat.le_of_ble_eq_true rfl)) ?hk
  case hl =>
   show PV.v false (.int .i64) (IntKind.i64.wrap (a - (b.getD j zb).2)) = _
   rw [h3]
  case h1 =>
   simp only [wq, simprocAttr]
   rfl
  case h2 =>
   simp only [wq, simprocAttr]
   rfl
  case hs => rfl
  case hn => rfl
  exact t65535.h
 ·refine hW.done 65535 _ (by kernel_rfl) ?_
  exact tK.h
 refine hK _ ?_
 clear hW W hK K
 show vthen _ _ _ .normal _
 refine vthen_n ?_
 repeat refine VW.seq ?_
 refine VW.regl hT fun K hK => ?_
 simp only [wq, simprocAttr]
 refine hK _ ?_
 clear hK K
 try refine vthen_n ?_
 refine VW.ret ⟨.inl rfl, _, rfl, ?_⟩
 rw [← hr]
 rfl
end Go.Proofs.YtmechjnfeidnkaaGreat.V.W
end
section
namespace Go.Proofs.YtmechjnfeidnkaaGreat.V.W
open Go Go.RowKit
theorem over_len {row d : List Int} {lo : Nat} (h : lo + d.length ≤ row.length) : (over row lo d).length = row.length := by
 simp only [over, List.length_append, List.length_take, List.length_drop]; omega
theorem over_nil (row : List Int) (lo : Nat) : over row lo [] = row := by simp [over]
theorem over_set {row d : List Int} {lo i : Nat} (hi : i < d.length) (h : lo + d.length ≤ row.length) : (over row lo (d.take i)).set (lo + i) (d.getD i 0) = over row lo (d.take (i + 1)) := by
 have e1 : (d.take i).length = i := by rw [List.length_take]; omega
 have e2 : (d.take (i + 1)).length = i + 1 := by rw [List.length_take]; omega
 have e3 : d.take (i + 1) = d.take i ++ [d.getD i 0] := by
  rw [List.take_add_one, List.getElem?_eq_getElem hi, List.getD_eq_getElem?_getD, List.getElem?_eq_getElem hi]
  rfl
 unfold over
 rw [e1, e2, List.set_append_right _ _ (by simp only [List.length_append, List.length_take]; omega)]
 have e4 : lo + i - (row.take lo ++ d.take i).length = 0 := by simp only [List.length_append, List.length_take]; omega
 rw [e4, List.drop_eq_getElem_cons (show lo + i < row.length by omega), List.set_cons_zero, e3, ← Nat.add_assoc]
 simp [List.append_assoc]
set_option maxRecDepth 20000 in
set_option maxHeartbeats 4000000 in
theorem specStoreWords_vc (x : Fab) (fr a : Int) (d : List Int) (hx : FabL x) (hgl : x.2.2.2.2.length ≤ 2000000) (ha : a ≤ 9223372036854775807) (hd : d.length ≤ 2000000) : VC Tryz.prog 37 [.v true sFi x, .v false (.int .i64) (fr), .v false (.int .i64) (a), .v false sI d] (· = rFI (storeW x fr a d)) := by
 refine VC.of_body hT Tryz.func37 rfl (by kernel_rfl) [(.cell 8 32, true, sFi), (.tmp 9, false, .int .i64)] (by kernel_rfl) ?_
 have htv := specTargetOf_vc x fr a d.length hx ha
 have hcp := specCopy_vc x hx hgl
 generalize hr : storeW x fr a d = r
 rw [storeW] at hr
 obtain ⟨t, s, b, m, g⟩ := x
 have hg : ∀ k : Int, targetOf (t, s, b, m, g) fr a d.length = (k, 0) → _ := fun k h => target_good h ha
 generalize targetOf (t, s, b, m, g) fr a d.length = p at *
 obtain ⟨k, c⟩ := p
 show VW _ _ ([.v true sFi (t, s, b, m, g), .v false (.int .i64) (fr), .v false (.int .i64) (a), .v false sI d, D, D, D, D, D, D, D, D, D, D, D, D, D, D, D, D, D, D, D, D, D, D, D, D, D, D, D, D, D, D, D, D, D, D, D, D, D, D, D, D, D, D, D, D, D, D, D, D, D, D, D, D, D, D, D, D, D, D, D]) _
 repeat refine VW.seq ?_
 refine VW.regl hT fun K hK => ?_
 simp only [wq, simprocAttr]
 refine hK _ ?_
 clear hK K
 try refine vthen_n ?_
 repeat refine VW.seq ?_
 refine VW.regl hT fun K hK => ?_
 simp only [wq, simprocAttr]
 refine vcall_of hcp ?_
 simp only [wq, simprocAttr]
 refine hK _ ?_
 clear hK K
 try refine vthen_n ?_
 repeat refine VW.seq ?_
 refine VW.regl hT fun K hK => ?_
 simp only [wq, simprocAttr]
 refine vcall_of (specWords_vc d hd) ?_
 simp only [wq, simprocAttr]
 refine hK _ ?_
 clear hK K
 try refine vthen_n ?_
 repeat refine VW.seq ?_
 refine VW.cond rfl (fun hc => ?_) (fun hc => ?_)
 ·have hc : words d = false := (Bool.not_eq_true' _).mp hc
  repeat refine VW.seq ?_
  refine VW.regl hT fun K hK => ?_
  simp only [wq, simprocAttr]
  refine hK _ ?_
  clear hK K
  try refine vthen_n ?_
  refine VW.ret ⟨.inl rfl, _, rfl, ?_⟩
  rw [← hr, if_neg (by rw [hc]; decide)]
 have hc : words d = true := by
  have := hc
  rwa [Bool.not_eq_false'] at this
 rw [if_pos hc] at hr
 refine VW.skip (vthen_n ?_)
 repeat refine VW.seq ?_
 refine VW.regl hT fun K hK => ?_
 simp only [wq, simprocAttr]
 refine vcall_of htv ?_
 simp only [wq, simprocAttr]
 refine hK _ ?_
 clear hK K
 try refine vthen_n ?_
 repeat refine VW.seq ?_
 refine VW.regl hT fun K hK => ?_
 simp only [wq, simprocAttr]
 refine hK _ ?_
 clear hK K
 try refine vthen_n ?_
 repeat refine VW.seq ?_
 refine VW.cond rfl (fun hc => ?_) (fun hc => ?_)
 ·rw [if_neg (by simpa using hc)] at hr
  repeat refine VW.seq ?_
  refine VW.regl hT fun K hK => ?_
  simp only [wq, simprocAttr]
  refine hK _ ?_
  clear hK K
  try refine vthen_n ?_
  refine VW.ret ⟨.inl rfl, _, rfl, ?_⟩
  rw [← hr]
 have hc : c = 0 := by simpa using hc
 subst hc
 rw [if_pos rfl] at hr
 obtain ⟨j, lo, n, rfl, hdn, h1, h2, h3, h4, h5, h6, hf⟩ := hg k rfl
 obtain rfl : d.length = n := by omega
 have hr : ((t, s, b, m.set ((j : Int)).toNat (over (m.getD ((j : Int)).toNat []) (IntKind.i64.wrap (a - (b.getD ((j : Int)).toNat zb).2)).toNat d), g), (0 : Int)) = r := hr
 rw [Int.toNat_natCast, h3, Int.toNat_natCast] at hr
 refine VW.skip (vthen_n ?_)
 repeat refine VW.seq ?_
 refine VW.regl hT fun K hK => ?_
 simp only [wq, simprocAttr]
 refine ⟨decide_eq_true ⟨Int.natCast_nonneg _, by show (j : Int) < (b.length : Int); omega⟩, ?_⟩
 refine hK _ ?_
 clear hK K
 try refine vthen_n ?_
 rw [show IntKind.i64.wrap (a - (b.getD j zb).2) = (lo : Int) from h3]
 repeat refine VW.seq ?_
 refine VW.regl hT fun K hK => ?_
 simp only [wq, simprocAttr]
 refine hK _ ?_
 clear hK K
 try refine vthen_n ?_
 generalize hrow : m.getD j [] = row at *
 repeat refine VW.seq ?_
 refine VW.block ?_
 refine VW.loop (α := Nat) [(3, none), (8, none), (10, none), (11, none), (12, none), (13, none), (14, none)] (fun i => [D, D, D, .v false sI d, D, D, D, D, .root (.box 32) sFi .own ([], [], [], [], []), D, .root (.box 32) sFi fFab (t, s, b, m.set j (over row lo (d.take i)), g), .v false (.int .i64) ((j : Nat)), .v false (.int .i64) (0), .v false (.int .i64) ((lo : Nat)), .v false (.int .i64) ((i : Nat)), D, D, D, D, D, D, D, D, D, D, D, D, D, D, D, D, D, D, D, D, D, D, D, D, D, D, D, D, D, D, D, D, D, D, D, D, D, D, D, D, D, D, D, D, D, D, D, D]) (fun i => i ≤ d.length) (fun i => d.length - i) ⟨0, by omega, ?_⟩ fun i hi => ?_
 ·simp only [wn, wq, simprocAttr]
  have e9 : m.set j (over row lo (d.take 0)) = m := by
   rw [List.take_zero, over_nil, ← hrow, List.getD_eq_getElem?_getD, List.getElem?_eq_getElem h1]
   exact List.set_getElem_self h1
  rw [e9]
 repeat refine VW.seq ?_
 refine VW.regl hT fun K hK => ?_
 simp only [wq, simprocAttr]
 refine hK _ ?_
 clear hK K
 try refine vthen_n ?_
 repeat refine VW.seq ?_
 refine VW.cond rfl (fun hc => ?_) (fun hc => ?_)
 ·have hlt : i < d.length := by simpa using hc
  refine VW.skip (vthen_n ?_)
  repeat refine VW.seq ?_
  refine VW.block ?_
  have hov := over_set hlt h5
  have hol : (over row lo (d.take i)).length = row.length := over_len (by rw [List.length_take]; omega)
  generalize over row lo (d.take i) = R at *
  have hM : (m.set j R).length = m.length := List.length_set
  have hG : (m.set j R).getD j [] = R := by
   rw [List.getD_eq_getElem?_getD, List.getElem?_set_self h1]
   rfl
  have hS : ∀ X, (m.set j R).set j X = m.set j X := fun X => List.set_set ..
  generalize m.set j R = M at *
  have hwr : IntKind.i64.wrap ((lo : Int) + (i : Int)) = ((lo + i : Nat) : Int) := by rw [wrap64 (by omega) (by omega)]; omega
  have hJ : decide (0 ≤ (j : Int) ∧ (j : Int) < (M.length : Int)) = true := decide_eq_true ⟨Int.natCast_nonneg _, by omega⟩
  have hI : decide (0 ≤ (i : Int) ∧ (i : Int) < (d.length : Int)) = true := decide_eq_true ⟨Int.natCast_nonneg _, by omega⟩
  have hO : decide (0 ≤ IntKind.i64.wrap ((lo : Int) + (i : Int)) ∧ IntKind.i64.wrap ((lo : Int) + (i : Int)) < ((M.getD j []).length : Int)) = true := by
   rw [hwr, hG]
   exact decide_eq_true ⟨Int.natCast_nonneg _, by omega⟩
  repeat refine VW.seq ?_
  refine VW.any hT hm fun K hK W hW => ?_
  apply cutl; intro tK
  apply cutl; intro t16383
  apply cutl; intro t8191
  apply cutl; intro t4095
  apply cutl; intro t4079
  apply cutl; intro t2047
  apply cutl; intro t4071
  apply cutl; intro t2031
  apply cutl; intro t1023
  apply cutl; intro t4069
  apply cutl; intro t2023
  apply cutl; intro t1007
  apply cutl; intro t2021
  apply cutl; intro t999
  ·refine hW.takeF 0 0 1 _ (by kernel_rfl) ?_
   simp only [wy, wq, simprocAttr]
   refine hW.take 1 2 5 _ (by kernel_rfl) ?_
   simp only [wy, wq, simprocAttr]
   refine hW.take 5 5 37 _ (by kernel_rfl) ?_
   simp only [wy, wq, simprocAttr]
   refine hW.take 37 6 101 _ (by kernel_rfl) ?_
   simp only [wy, wq, simprocAttr]
   refine hW.take 101 7 229 _ (by kernel_rfl) ?_
   simp only [wy, wq, simprocAttr]
   refine hW.take 229 8 485 _ (by kernel_rfl) ?_
   simp only [wy, wq, simprocAttr]
   refine hW.take 485 9 997 _ (by kernel_rfl) ?_
   simp only [wy, wq, simprocAttr]
   refine hW.all 997 [(1, 999), (10, 2021)] _ (by kernel_rfl) (by simp) ?_
   simp only [wy, wq, simprocAttr]
   exact ⟨t999.h, ⟨hI, t2021.h⟩⟩
  ·refine hW.all 999 [(3, 1007), (10, 2023)] _ (by kernel_rfl) (by simp) ?_
   simp only [wy, wq, simprocAttr]
   exact ⟨⟨hJ, t1007.h⟩, ⟨hI, t2023.h⟩⟩
  ·refine hW.all 2021 [(1, 2023), (11, 4069)] _ (by kernel_rfl) (by simp) ?_
   simp only [wy, wq, simprocAttr]
   exact ⟨t2023.h, t4069.h⟩
  ·refine hW.all 1007 [(4, 1023), (10, 2031)] _ (by kernel_rfl) (by simp) ?_
   simp only [wy, wq, simprocAttr]
   exact ⟨t1023.h, ⟨hI, t2031.h⟩⟩
  ·refine hW.all 2023 [(3, 2031), (11, 4071)] _ (by kernel_rfl) (by simp) ?_
   simp only [wy, wq, simprocAttr]
   exact ⟨⟨hJ, t2031.h⟩, t4071.h⟩
  ·refine hW.all 4069 [(1, 4071)] _ (by kernel_rfl) (by simp) ?_
   simp only [wy, wq, simprocAttr]
   exact t4071.h
  ·refine hW.all 1023 [(10, 2047)] _ (by kernel_rfl) (by simp) ?_
   simp only [wy, wq, simprocAttr]
   exact ⟨hI, t2047.h⟩
  ·refine hW.all 2031 [(4, 2047), (11, 4079)] _ (by kernel_rfl) (by simp) ?_
   simp only [wy, wq, simprocAttr]
   exact ⟨t2047.h, t4079.h⟩
  ·refine hW.all 4071 [(3, 4079)] _ (by kernel_rfl) (by simp) ?_
   simp only [wy, wq, simprocAttr]
   exact ⟨hJ, t4079.h⟩
  ·refine hW.all 2047 [(11, 4095)] _ (by kernel_rfl) (by simp) ?_
   simp only [wy, wq, simprocAttr]
   exact t4095.h
  ·refine hW.all 4079 [(4, 4095)] _ (by kernel_rfl) (by simp) ?_
   simp only [wy, wq, simprocAttr]
   exact t4095.h
  ·refine hW.all 4095 [(12, 8191)] _ (by kernel_rfl) (by simp) ?_
   simp only [wy, wq, simprocAttr]
   exact ⟨hO, t8191.h⟩
  ·refine hW.all 8191 [(13, 16383)] _ (by kernel_rfl) (by simp) ?_
   simp only [wy, wq, simprocAttr]
   exact t16383.h
  ·refine hW.done 16383 _ (by kernel_rfl) ?_
   exact tK.h
  refine hK _ ?_
  clear hW W hK K
  show vthen _ _ _ .normal _
  refine vthen_n ?_
  repeat refine VW.seq ?_
  refine VW.regl hT fun K hK => ?_
  simp only [wq, simprocAttr]
  refine hK _ ?_
  clear hK K
  try refine vthen_n ?_
  refine ⟨i + 1, hlt, ?_, by show d.length - (i + 1) < d.length - i; omega⟩
  simp only [wn, wq, simprocAttr]
  rw [hwr, Int.toNat_natCast, hG, hov, hS, wrap64 (by omega) (by omega), show (i : Int) + 1 = ((i + 1 : Nat) : Int) by omega]
 ·have hge : i = d.length := by
   have hc : ¬ (i : Int) < (d.length : Int) := of_decide_eq_false hc
   omega
  subst hge
  rw [List.take_length]
  refine VW.exit ?_
  show vthen _ _ _ .normal _
  refine vthen_n ?_
  repeat refine VW.seq ?_
  refine VW.regl hT fun K hK => ?_
  simp only [wq, simprocAttr]
  refine hK _ ?_
  clear hK K
  try refine vthen_n ?_
  refine VW.ret ⟨.inl rfl, _, rfl, ?_⟩
  rw [← hr]
end Go.Proofs.YtmechjnfeidnkaaGreat.V.W
end
section
namespace Go.Proofs.YtmechjnfeidnkaaGreat.V.W
open Go Go.RowKit
theorem fab_s {x : Fab} (h : fabSize x ≤ 1048576) : FabS x := by
 obtain ⟨t, s, b, m, g⟩ := x
 unfold fabSize at h
 have h : t.length + s.length + b.length + (m.length + tot m m.length) + g.length ≤ 1048576 := h
 exact ⟨by show t.length ≤ _; omega, by show s.length ≤ _; omega, by show b.length ≤ _; omega, by show m.length ≤ _; omega, by show tot m m.length ≤ _; omega, by show g.length ≤ _; omega⟩
theorem kE_pos (x : Fab) : 1 ≤ kE 1 x := by unfold kE kD kC kB kA; omega
theorem kE_le {x : Fab} (hs : FabS x) : kE 1 x ≤ 20000000 := by
 have e1 := hs.a; have e2 := hs.b; have e3 := hs.c; have e4 := hs.e; have e5 := hs.f
 unfold kE kD kC kB kA
 omega
/-- two fabrics of the same sizes -/
structure FabSh (x y : Fab) : Prop where
 a : y.1.length = x.1.length
 b : y.2.1.length = x.2.1.length
 c : y.2.2.1.length = x.2.2.1.length
 d : y.2.2.2.1.length = x.2.2.2.1.length
 e : ∀ k, (y.2.2.2.1.getD k []).length = (x.2.2.2.1.getD k []).length
 f : y.2.2.2.2.length = x.2.2.2.2.length
theorem FabSh.refl (x : Fab) : FabSh x x := ⟨rfl, rfl, rfl, rfl, fun _ => rfl, rfl⟩
theorem FabSh.trans {x y z : Fab} (h : FabSh x y) (k : FabSh y z) : FabSh x z := ⟨k.a.trans h.a, k.b.trans h.b, k.c.trans h.c, k.d.trans h.d, fun i => (k.e i).trans (h.e i), k.f.trans h.f⟩
theorem FabSh.toL {x y : Fab} (h : FabSh x y) (k : FabL x) : FabL y := ⟨by rw [h.a]; exact k.a, by rw [h.b]; exact k.b, by rw [h.c]; exact k.c, by rw [h.d]; exact k.d, fun i => by rw [h.e]; exact k.e i⟩
theorem storeW_sh (x : Fab) (fr a : Int) (d : List Int) (ha : a ≤ 9223372036854775807) : FabSh x (storeW x fr a d).1 := by
 rw [storeW]
 split
 ·split
  ·rename_i h
   obtain ⟨t, s, b, m, g⟩ := x
   obtain ⟨j, lo, n, h0, h1, h2, h3, h4, h5, h6, h7, h8⟩ := target_good (t := t) (s := s) (b := b) (m := m) (g := g) (fr := fr) (a := a) (l := d.length) (k := (targetOf (t, s, b, m, g) fr a d.length).1) (Prod.ext rfl h) ha
   obtain rfl : d.length = n := by omega
   have h4 : (IntKind.i64.wrap (a - (b.getD j zb).2)).toNat = lo := by rw [h4, Int.toNat_natCast]
   rw [h0, Int.toNat_natCast]
   refine ⟨rfl, rfl, rfl, List.length_set, fun k => ?_, rfl⟩
   show ((m.set j (over (m.getD j []) (IntKind.i64.wrap (a - (b.getD j zb).2)).toNat d)).getD k []).length = (m.getD k []).length
   rw [h4, getD_setL _ _ _ _ _ h2]
   split
   ·rename_i e
    rw [e, over_len h6]
   ·rfl
  ·exact FabSh.refl x
 ·exact FabSh.refl x
end Go.Proofs.YtmechjnfeidnkaaGreat.V.W
end
section
namespace Go.Proofs.YtmechjnfeidnkaaGreat.V.W
open Go Go.RowKit
/-- a guard with a node set -/
def setG (t : List Nd) (g : List Bool) (k : Int) (o : Bool) : List Bool × Bool := if (guardOk t g && (inB k 1 (t.length - 1) && !(g.getD k.toNat false == o))) = true then (g.set k.toNat o, true) else (g, false)
theorem setG_len (t : List Nd) (g : List Bool) (k : Int) (o : Bool) : (setG t g k o).1.length = g.length := by
 rw [setG]
 split
 ·exact List.length_set
 ·rfl
theorem guard_len {t : List Nd} {g : List Bool} (h : guardOk t g = true) : g.length = t.length ∧ treeOk t = true := by
 rw [guardOk, Bool.and_eq_true, Bool.and_eq_true] at h
 exact ⟨eq_of_beq h.2.1, h.1⟩
abbrev rG (p : List Bool × Bool) : PV := .root (.tup [true, false]) (.pr sG .bool) (.pr .own .fz) p
set_option maxRecDepth 20000 in
set_option maxHeartbeats 1000000 in
theorem setNode_vc (t : List Nd) (g : List Bool) (k : Int) (o : Bool) (hl : t.length ≤ 2000000) (hg : g.length ≤ 2000000) : VC Tryz.prog 142 [.v false sNS t, .v true sG g, .v false (.int .i64) (k), .v false .bool (o)] (· = rG (setG t g k o)) := by
 refine VC.of_body hT Tryz.func142 rfl (by kernel_rfl) [(.cell 8 30, true, sG), (.tmp 9, false, .bool)] (by kernel_rfl) ?_
 generalize hr : setG t g k o = r
 rw [setG] at hr
 show VW _ _ ([.v false sNS t, .v true sG g, .v false (.int .i64) (k), .v false .bool (o), D, D, D, D, D, D, D, D, D, D, D, D, D, D, D, D, D, D, D, D, D, D, D, D, D, D, D, D, D, D, D, D, D, D, D, D, D, D, D]) _
 repeat refine VW.seq ?_
 refine VW.regl hT fun K hK => ?_
 simp only [wq, simprocAttr]
 refine hK _ ?_
 clear hK K
 try refine vthen_n ?_
 repeat refine VW.seq ?_
 refine VW.regl hT fun K hK => ?_
 simp only [wq, simprocAttr]
 refine vcall_of (cloneBo_vc g hg) ?_
 simp only [wq, simprocAttr]
 refine hK _ ?_
 clear hK K
 try refine vthen_n ?_
 repeat refine VW.seq ?_
 refine VW.regl hT fun K hK => ?_
 simp only [wq, simprocAttr]
 refine vcall_of (guardOk_vc t g hl) ?_
 simp only [wq, simprocAttr]
 refine vbr (fun h => ?_) (fun h => ?_) <;> simp only [wq, simprocAttr]
 case refine_2 =>
  have h : guardOk t g = false := (Bool.not_eq_true' _).mp h
  refine hK _ ?_
  clear hK K
  try refine vthen_n ?_
  repeat refine VW.seq ?_
  refine VW.cond rfl (fun hc => ?_) (fun hc => ?_)
  ·repeat refine VW.seq ?_
   refine VW.regl hT fun K hK => ?_
   simp only [wq, simprocAttr]
   refine hK _ ?_
   clear hK K
   try refine vthen_n ?_
   refine VW.ret ⟨.inl rfl, _, rfl, ?_⟩
   rw [← hr, if_neg (by rw [h]; simp)]
  ·cases hc
 have hgo : guardOk t g = true := by
  have := h
  rwa [Bool.not_eq_false'] at this
 obtain ⟨hgl, hok⟩ := guard_len hgo
 have htl := treeOk_len hok
 rw [wrap64 (by omega) (by omega)]
 refine vcall_of (within_vc k 1 (t.length - 1)) ?_
 simp only [wq, simprocAttr]
 refine vbr (fun h => ?_) (fun h => ?_) <;> simp only [wq, simprocAttr]
 case refine_2 =>
  have h : inB k 1 (t.length - 1) = false := (Bool.not_eq_true' _).mp h
  refine hK _ ?_
  clear hK K
  try refine vthen_n ?_
  repeat refine VW.seq ?_
  refine VW.cond rfl (fun hc => ?_) (fun hc => ?_)
  ·repeat refine VW.seq ?_
   refine VW.regl hT fun K hK => ?_
   simp only [wq, simprocAttr]
   refine hK _ ?_
   clear hK K
   try refine vthen_n ?_
   refine VW.ret ⟨.inl rfl, _, rfl, ?_⟩
   rw [← hr, if_neg (by rw [h]; simp)]
  ·cases hc
 have hin : inB k 1 (t.length - 1) = true := by
  have := h
  rwa [Bool.not_eq_false'] at this
 have hk := inB_iff.1 hin
 have hkg : decide (0 ≤ k ∧ k < (g.length : Int)) = true := decide_eq_true ⟨by omega, by omega⟩
 refine ⟨hkg, ?_⟩
 refine hK _ ?_
 clear hK K
 try refine vthen_n ?_
 repeat refine VW.seq ?_
 refine VW.cond rfl (fun hc => ?_) (fun hc => ?_)
 ·have hc : (g.getD k.toNat false == o) = true := hc
  repeat refine VW.seq ?_
  refine VW.regl hT fun K hK => ?_
  simp only [wq, simprocAttr]
  refine hK _ ?_
  clear hK K
  try refine vthen_n ?_
  refine VW.ret ⟨.inl rfl, _, rfl, ?_⟩
  rw [← hr, if_neg (by rw [hc]; simp)]
 have hc : (g.getD k.toNat false == o) = false := hc
 refine VW.skip (vthen_n ?_)
 repeat refine VW.seq ?_
 refine VW.regl hT fun K hK => ?_
 simp only [wq, simprocAttr]
 refine ⟨hkg, ?_⟩
 refine hK _ ?_
 clear hK K
 try refine vthen_n ?_
 repeat refine VW.seq ?_
 refine VW.regl hT fun K hK => ?_
 simp only [wq, simprocAttr]
 refine hK _ ?_
 clear hK K
 try refine vthen_n ?_
 refine VW.ret ⟨.inl rfl, _, rfl, ?_⟩
 rw [← hr, if_pos (by rw [hgo, hin, hc]; rfl)]
set_option maxRecDepth 20000 in
set_option maxHeartbeats 1000000 in
theorem specSetNode_vc (t : List Nd) (g : List Bool) (k : Int) (o : Bool) (hl : t.length ≤ 2000000) (hg : g.length ≤ 2000000) : VC Tryz.prog 100 [.v false sNS t, .v true sG g, .v false (.int .i64) (k), .v false .bool (o)] (· = rG (setG t g k o)) := by
 refine VC.of_body hT Tryz.func100 rfl (by kernel_rfl) [(.cell 8 30, true, sG), (.tmp 9, false, .bool)] (by kernel_rfl) ?_
 generalize hr : setG t g k o = r
 rw [setG] at hr
 show VW _ _ ([.v false sNS t, .v true sG g, .v false (.int .i64) (k), .v false .bool (o), D, D, D, D, D, D, D, D, D, D, D, D, D, D, D, D, D, D, D, D, D, D, D, D, D, D, D, D, D, D, D, D, D, D, D, D, D, D, D, D]) _
 repeat refine VW.seq ?_
 refine VW.regl hT fun K hK => ?_
 simp only [wq, simprocAttr]
 refine hK _ ?_
 clear hK K
 try refine vthen_n ?_
 repeat refine VW.seq ?_
 refine VW.regl hT fun K hK => ?_
 simp only [wq, simprocAttr]
 refine ⟨by simp only [limOk]; exact decide_eq_true (by omega), ?_⟩
 refine hK _ ?_
 clear hK K
 try refine vthen_n ?_
 repeat refine VW.seq ?_
 refine VW.regl hT fun K hK => ?_
 simp only [wq, simprocAttr]
 refine vcall_of (specGuard_vc t g hl) ?_
 simp only [wq, simprocAttr]
 refine vbr (fun h => ?_) (fun h => ?_) <;> simp only [wq, simprocAttr]
 case refine_2 =>
  have h : guardOk t g = false := (Bool.not_eq_true' _).mp h
  refine hK _ ?_
  clear hK K
  try refine vthen_n ?_
  repeat refine VW.seq ?_
  refine VW.cond rfl (fun hc => ?_) (fun hc => ?_)
  ·repeat refine VW.seq ?_
   refine VW.regl hT fun K hK => ?_
   simp only [wq, simprocAttr]
   refine hK _ ?_
   clear hK K
   try refine vthen_n ?_
   refine VW.ret ⟨.inl rfl, _, rfl, ?_⟩
   rw [← hr, if_neg (by rw [h]; simp)]
  ·cases hc
 have hgo : guardOk t g = true := by
  have := h
  rwa [Bool.not_eq_false'] at this
 obtain ⟨hgl, hok⟩ := guard_len hgo
 have htl := treeOk_len hok
 rw [wrap64 (by omega) (by omega)]
 refine vcall_of (in_vc k 1 (t.length - 1)) ?_
 simp only [wq, simprocAttr]
 refine vbr (fun h => ?_) (fun h => ?_) <;> simp only [wq, simprocAttr]
 case refine_2 =>
  have h : inB k 1 (t.length - 1) = false := (Bool.not_eq_true' _).mp h
  refine hK _ ?_
  clear hK K
  try refine vthen_n ?_
  repeat refine VW.seq ?_
  refine VW.cond rfl (fun hc => ?_) (fun hc => ?_)
  ·repeat refine VW.seq ?_
   refine VW.regl hT fun K hK => ?_
   simp only [wq, simprocAttr]
   refine hK _ ?_
   clear hK K
   try refine vthen_n ?_
   refine VW.ret ⟨.inl rfl, _, rfl, ?_⟩
   rw [← hr, if_neg (by rw [h]; simp)]
  ·cases hc
 have hin : inB k 1 (t.length - 1) = true := by
  have := h
  rwa [Bool.not_eq_false'] at this
 have hk := inB_iff.1 hin
 have hkg : decide (0 ≤ k ∧ k < (g.length : Int)) = true := decide_eq_true ⟨by omega, by omega⟩
 refine ⟨hkg, ?_⟩
 refine hK _ ?_
 clear hK K
 try refine vthen_n ?_
 repeat refine VW.seq ?_
 refine VW.cond rfl (fun hc => ?_) (fun hc => ?_)
 ·have hc : (g.getD k.toNat false == o) = true := hc
  repeat refine VW.seq ?_
  refine VW.regl hT fun K hK => ?_
  simp only [wq, simprocAttr]
  refine hK _ ?_
  clear hK K
  try refine vthen_n ?_
  refine VW.ret ⟨.inl rfl, _, rfl, ?_⟩
  rw [← hr, if_neg (by rw [hc]; simp)]
 have hc : (g.getD k.toNat false == o) = false := hc
 refine VW.skip (vthen_n ?_)
 repeat refine VW.seq ?_
 refine VW.regl hT fun K hK => ?_
 simp only [wq, simprocAttr]
 refine ⟨hkg, ?_⟩
 refine hK _ ?_
 clear hK K
 try refine vthen_n ?_
 repeat refine VW.seq ?_
 refine VW.regl hT fun K hK => ?_
 simp only [wq, simprocAttr]
 refine hK _ ?_
 clear hK K
 try refine vthen_n ?_
 refine VW.ret ⟨.inl rfl, _, rfl, ?_⟩
 rw [← hr, if_pos (by rw [hgo, hin, hc]; rfl)]
theorem cutNode_vc (t : List Nd) (g : List Bool) (k : Int) (hl : t.length ≤ 2000000) (hg : g.length ≤ 2000000) : VC Tryz.prog 102 [.v false sNS t, .v true sG g, .v false (.int .i64) (k)] (· = rG (setG t g k false)) := by
 refine VC.of_body hT Tryz.func102 rfl (by kernel_rfl) [(.cell 6 30, true, sG), (.tmp 7, false, .bool)] (by kernel_rfl) ?_
 show VW _ _ ([.v false sNS t, .v true sG g, .v false (.int .i64) (k), D, D, D, D, D, D, D, D, D, D, D]) _
 repeat refine VW.seq ?_
 refine VW.regl hT fun K hK => ?_
 simp only [wq, simprocAttr]
 refine hK _ ?_
 clear hK K
 try refine vthen_n ?_
 repeat refine VW.seq ?_
 refine VW.regl hT fun K hK => ?_
 simp only [wq, simprocAttr]
 refine vcall_of (setNode_vc t g k false hl hg) ?_
 simp only [wq, simprocAttr]
 refine hK _ ?_
 clear hK K
 try refine vthen_n ?_
 exact VW.ret ⟨.inl rfl, _, rfl, rfl⟩
theorem openNode_vc (t : List Nd) (g : List Bool) (k : Int) (hl : t.length ≤ 2000000) (hg : g.length ≤ 2000000) : VC Tryz.prog 103 [.v false sNS t, .v true sG g, .v false (.int .i64) (k)] (· = rG (setG t g k true)) := by
 refine VC.of_body hT Tryz.func103 rfl (by kernel_rfl) [(.cell 6 30, true, sG), (.tmp 7, false, .bool)] (by kernel_rfl) ?_
 show VW _ _ ([.v false sNS t, .v true sG g, .v false (.int .i64) (k), D, D, D, D, D, D, D, D, D, D, D]) _
 repeat refine VW.seq ?_
 refine VW.regl hT fun K hK => ?_
 simp only [wq, simprocAttr]
 refine hK _ ?_
 clear hK K
 try refine vthen_n ?_
 repeat refine VW.seq ?_
 refine VW.regl hT fun K hK => ?_
 simp only [wq, simprocAttr]
 refine vcall_of (setNode_vc t g k true hl hg) ?_
 simp only [wq, simprocAttr]
 refine hK _ ?_
 clear hK K
 try refine vthen_n ?_
 exact VW.ret ⟨.inl rfl, _, rfl, rfl⟩
theorem one_vc (b : Bool) : VC Tryz.prog 104 [.v false .bool (b)] (· = .v false (.int .i64) (if b = true then 1 else 0)) := by
 refine VC.of_body hT Tryz.func104 rfl (by kernel_rfl) [(.tmp 2, false, .int .i64)] (by kernel_rfl) ?_
 show VW _ _ ([.v false .bool (b), D, D, D]) _
 repeat refine VW.seq ?_
 refine VW.regl hT fun K hK => ?_
 simp only [wq, simprocAttr]
 refine hK _ ?_
 clear hK K
 try refine vthen_n ?_
 repeat refine VW.seq ?_
 refine VW.regl hT fun K hK => ?_
 simp only [wq, simprocAttr]
 refine hK _ ?_
 clear hK K
 try refine vthen_n ?_
 repeat refine VW.seq ?_
 refine VW.cond rfl (fun hc => ?_) (fun hc => ?_)
 ·have hc : b = true := hc
  subst hc
  repeat refine VW.seq ?_
  refine VW.regl hT fun K hK => ?_
  simp only [wq, simprocAttr]
  refine hK _ ?_
  clear hK K
  try refine vthen_n ?_
  exact VW.ret ⟨.inl rfl, _, rfl, rfl⟩
 have hc : b = false := hc
 subst hc
 refine VW.skip (vthen_n ?_)
 repeat refine VW.seq ?_
 refine VW.regl hT fun K hK => ?_
 simp only [wq, simprocAttr]
 refine hK _ ?_
 clear hK K
 try refine vthen_n ?_
 exact VW.ret ⟨.inl rfl, _, rfl, rfl⟩
abbrev sAct : Sh := .pr (.int .i64) (.pr (.int .i64) (.pr (.int .i64) (.int .i64)))
abbrev Ac : Type := Int × Int × Int × Int
/-- an act that may be -/
def actOk (a : Ac) : Bool := inB a.2.1 0 11 && (if a.1 = 1 then inB a.2.2.1 0 65535 && inB a.2.2.2 0 65535 else if a.1 = 2 then inB a.2.2.1 0 65535 && a.2.2.2 == 0 else if a.1 = 3 ∨ a.1 = 4 then a.2.2.1 == 0 && a.2.2.2 == 0 else false)
set_option maxRecDepth 20000 in
set_option maxHeartbeats 1000000 in
theorem actOk_vc (a : Ac) : VC Tryz.prog 101 [.v true sAct a] (· = .v false .bool (actOk a)) := by
 refine VC.of_body hT Tryz.func101 rfl (by kernel_rfl) [(.tmp 2, false, .bool)] (by kernel_rfl) ?_
 generalize hr : actOk a = r
 obtain ⟨kd, nd, x, y⟩ := a
 have hr : (inB nd 0 11 && (if kd = 1 then inB x 0 65535 && inB y 0 65535 else if kd = 2 then inB x 0 65535 && y == 0 else if kd = 3 ∨ kd = 4 then x == 0 && y == 0 else false)) = r := hr
 show VW _ _ ([.v true sAct (kd, nd, x, y), D, D, D, D, D, D, D, D, D, D, D, D, D, D, D, D, D, D, D, D, D, D, D, D, D, D, D, D, D, D, D, D, D, D, D, D, D, D, D]) _
 repeat refine VW.seq ?_
 refine VW.regl hT fun K hK => ?_
 simp only [wq, simprocAttr]
 refine hK _ ?_
 clear hK K
 try refine vthen_n ?_
 repeat refine VW.seq ?_
 refine VW.regl hT fun K hK => ?_
 simp only [wq, simprocAttr]
 refine vcall_of (within_vc nd 0 11) ?_
 simp only [wq, simprocAttr]
 refine hK _ ?_
 clear hK K
 try refine vthen_n ?_
 repeat refine VW.seq ?_
 refine VW.cond rfl (fun hc => ?_) (fun hc => ?_)
 ·have hc : inB nd 0 11 = false := (Bool.not_eq_true' _).mp hc
  repeat refine VW.seq ?_
  refine VW.regl hT fun K hK => ?_
  simp only [wq, simprocAttr]
  refine hK _ ?_
  clear hK K
  try refine vthen_n ?_
  refine VW.ret ⟨.inl rfl, _, rfl, ?_⟩
  rw [← hr, hc, Bool.false_and]
 have hc : inB nd 0 11 = true := by
  have := hc
  rwa [Bool.not_eq_false'] at this
 rw [hc, Bool.true_and] at hr
 refine VW.skip (vthen_n ?_)
 repeat refine VW.seq ?_
 refine VW.regl hT fun K hK => ?_
 simp only [wq, simprocAttr]
 refine hK _ ?_
 clear hK K
 try refine vthen_n ?_
 repeat refine VW.seq ?_
 refine VW.block ?_
 repeat refine VW.seq ?_
 refine VW.regl hT fun K hK => ?_
 simp only [wq, simprocAttr]
 refine hK _ ?_
 clear hK K
 try refine vthen_n ?_
 repeat refine VW.seq ?_
 refine VW.cond rfl (fun hc => ?_) (fun hc => ?_)
 ·have hc : kd = 1 := eq_of_beq hc
  rw [if_pos hc] at hr
  repeat refine VW.seq ?_
  refine VW.regl hT fun K hK => ?_
  simp only [wq, simprocAttr]
  refine vcall_of (within_vc x 0 65535) ?_
  simp only [wq, simprocAttr]
  refine vbr (fun h => ?_) (fun h => ?_) <;> simp only [wq, simprocAttr]
  ·have h : inB x 0 65535 = true := h
   refine vcall_of (isWord_vc y) ?_
   simp only [wq, simprocAttr]
   refine hK _ ?_
   clear hK K
   try refine vthen_n ?_
   refine VW.ret ⟨.inl rfl, _, rfl, ?_⟩
   rw [← hr, h, Bool.true_and]
  ·have h : inB x 0 65535 = false := h
   refine hK _ ?_
   clear hK K
   try refine vthen_n ?_
   refine VW.ret ⟨.inl rfl, _, rfl, ?_⟩
   rw [← hr, h, Bool.false_and]
 have hc : ¬ kd = 1 := fun e => by rw [e] at hc; cases hc
 rw [if_neg hc] at hr
 repeat refine VW.seq ?_
 refine VW.regl hT fun K hK => ?_
 simp only [wq, simprocAttr]
 refine hK _ ?_
 clear hK K
 try refine vthen_n ?_
 repeat refine VW.seq ?_
 refine VW.cond rfl (fun hc => ?_) (fun hc => ?_)
 ·have hc : kd = 2 := eq_of_beq hc
  rw [if_pos hc] at hr
  repeat refine VW.seq ?_
  refine VW.regl hT fun K hK => ?_
  simp only [wq, simprocAttr]
  refine vcall_of (within_vc x 0 65535) ?_
  simp only [wq, simprocAttr]
  refine vbr (fun h => ?_) (fun h => ?_) <;> simp only [wq, simprocAttr]
  ·have h : inB x 0 65535 = true := h
   refine hK _ ?_
   clear hK K
   try refine vthen_n ?_
   refine VW.ret ⟨.inl rfl, _, rfl, ?_⟩
   rw [← hr, h, Bool.true_and]
  ·have h : inB x 0 65535 = false := h
   refine hK _ ?_
   clear hK K
   try refine vthen_n ?_
   refine VW.ret ⟨.inl rfl, _, rfl, ?_⟩
   rw [← hr, h, Bool.false_and]
 have hc : ¬ kd = 2 := fun e => by rw [e] at hc; cases hc
 rw [if_neg hc] at hr
 repeat refine VW.seq ?_
 refine VW.regl hT fun K hK => ?_
 simp only [wq, simprocAttr]
 refine hK _ ?_
 clear hK K
 try refine vthen_n ?_
 repeat refine VW.seq ?_
 refine VW.cond rfl (fun hc => ?_) (fun hc => ?_)
 ·have e3 : kd = 3 := eq_of_beq hc
  refine VW.skip (vthen_n ?_)
  repeat refine VW.seq ?_
  refine VW.cond rfl (fun hc => ?_) (fun hc => ?_)
  ·skip
   rw [if_pos (by omega)] at hr
   repeat refine VW.seq ?_
   refine VW.regl hT fun K hK => ?_
   simp only [wq, simprocAttr]
   refine vbr (fun h => ?_) (fun h => ?_) <;> simp only [wq, simprocAttr]
   ·have h : (x == 0) = true := h
    refine hK _ ?_
    clear hK K
    try refine vthen_n ?_
    refine VW.ret ⟨.inl rfl, _, rfl, ?_⟩
    rw [← hr, h, Bool.true_and]
   ·have h : (x == 0) = false := h
    refine hK _ ?_
    clear hK K
    try refine vthen_n ?_
    refine VW.ret ⟨.inl rfl, _, rfl, ?_⟩
    rw [← hr, h, Bool.false_and]
  exact absurd hc (by rw [e3]; decide)
 have h3 : ¬ kd = 3 := fun e => by rw [e] at hc; cases hc
 repeat refine VW.seq ?_
 refine VW.regl hT fun K hK => ?_
 simp only [wq, simprocAttr]
 refine hK _ ?_
 clear hK K
 try refine vthen_n ?_
 repeat refine VW.seq ?_
 refine VW.cond rfl (fun hc => ?_) (fun hc => ?_)
 ·have hc : kd = 4 := eq_of_beq hc
  rw [if_pos (by omega)] at hr
  repeat refine VW.seq ?_
  refine VW.regl hT fun K hK => ?_
  simp only [wq, simprocAttr]
  refine vbr (fun h => ?_) (fun h => ?_) <;> simp only [wq, simprocAttr]
  ·have h : (x == 0) = true := h
   refine hK _ ?_
   clear hK K
   try refine vthen_n ?_
   refine VW.ret ⟨.inl rfl, _, rfl, ?_⟩
   rw [← hr, h, Bool.true_and]
  ·have h : (x == 0) = false := h
   refine hK _ ?_
   clear hK K
   try refine vthen_n ?_
   refine VW.ret ⟨.inl rfl, _, rfl, ?_⟩
   rw [← hr, h, Bool.false_and]
 have h4 : ¬ kd = 4 := fun e => by rw [e] at hc; cases hc
 rw [if_neg (by omega)] at hr
 refine VW.skip ?_
 show vthen _ _ _ .normal _
 refine vthen_n ?_
 repeat refine VW.seq ?_
 refine VW.regl hT fun K hK => ?_
 simp only [wq, simprocAttr]
 refine hK _ ?_
 clear hK K
 try refine vthen_n ?_
 refine VW.ret ⟨.inl rfl, _, rfl, ?_⟩
 rw [← hr]
set_option maxRecDepth 20000 in
set_option maxHeartbeats 1000000 in
theorem specActOk_vc (a : Ac) : VC Tryz.prog 99 [.v true sAct a] (· = .v false .bool (actOk a)) := by
 refine VC.of_body hT Tryz.func99 rfl (by kernel_rfl) [(.tmp 2, false, .bool)] (by kernel_rfl) ?_
 generalize hr : actOk a = r
 obtain ⟨kd, nd, x, y⟩ := a
 have hr : (inB nd 0 11 && (if kd = 1 then inB x 0 65535 && inB y 0 65535 else if kd = 2 then inB x 0 65535 && y == 0 else if kd = 3 ∨ kd = 4 then x == 0 && y == 0 else false)) = r := hr
 show VW _ _ ([.v true sAct (kd, nd, x, y), D, D, D, D, D, D, D, D, D, D, D, D, D, D, D, D, D, D, D, D, D, D, D, D, D, D, D, D, D, D, D, D, D, D, D, D, D, D, D]) _
 repeat refine VW.seq ?_
 refine VW.regl hT fun K hK => ?_
 simp only [wq, simprocAttr]
 refine hK _ ?_
 clear hK K
 try refine vthen_n ?_
 repeat refine VW.seq ?_
 refine VW.regl hT fun K hK => ?_
 simp only [wq, simprocAttr]
 refine vcall_of (in_vc nd 0 11) ?_
 simp only [wq, simprocAttr]
 refine hK _ ?_
 clear hK K
 try refine vthen_n ?_
 repeat refine VW.seq ?_
 refine VW.cond rfl (fun hc => ?_) (fun hc => ?_)
 ·have hc : inB nd 0 11 = false := (Bool.not_eq_true' _).mp hc
  repeat refine VW.seq ?_
  refine VW.regl hT fun K hK => ?_
  simp only [wq, simprocAttr]
  refine hK _ ?_
  clear hK K
  try refine vthen_n ?_
  refine VW.ret ⟨.inl rfl, _, rfl, ?_⟩
  rw [← hr, hc, Bool.false_and]
 have hc : inB nd 0 11 = true := by
  have := hc
  rwa [Bool.not_eq_false'] at this
 rw [hc, Bool.true_and] at hr
 refine VW.skip (vthen_n ?_)
 repeat refine VW.seq ?_
 refine VW.regl hT fun K hK => ?_
 simp only [wq, simprocAttr]
 refine hK _ ?_
 clear hK K
 try refine vthen_n ?_
 repeat refine VW.seq ?_
 refine VW.block ?_
 repeat refine VW.seq ?_
 refine VW.regl hT fun K hK => ?_
 simp only [wq, simprocAttr]
 refine hK _ ?_
 clear hK K
 try refine vthen_n ?_
 repeat refine VW.seq ?_
 refine VW.cond rfl (fun hc => ?_) (fun hc => ?_)
 ·have hc : kd = 1 := eq_of_beq hc
  rw [if_pos hc] at hr
  repeat refine VW.seq ?_
  refine VW.regl hT fun K hK => ?_
  simp only [wq, simprocAttr]
  refine vcall_of (in_vc x 0 65535) ?_
  simp only [wq, simprocAttr]
  refine vbr (fun h => ?_) (fun h => ?_) <;> simp only [wq, simprocAttr]
  ·have h : inB x 0 65535 = true := h
   refine vcall_of (in_vc y 0 65535) ?_
   simp only [wq, simprocAttr]
   refine hK _ ?_
   clear hK K
   try refine vthen_n ?_
   refine VW.ret ⟨.inl rfl, _, rfl, ?_⟩
   rw [← hr, h, Bool.true_and]
  ·have h : inB x 0 65535 = false := h
   refine hK _ ?_
   clear hK K
   try refine vthen_n ?_
   refine VW.ret ⟨.inl rfl, _, rfl, ?_⟩
   rw [← hr, h, Bool.false_and]
 have hc : ¬ kd = 1 := fun e => by rw [e] at hc; cases hc
 rw [if_neg hc] at hr
 repeat refine VW.seq ?_
 refine VW.regl hT fun K hK => ?_
 simp only [wq, simprocAttr]
 refine hK _ ?_
 clear hK K
 try refine vthen_n ?_
 repeat refine VW.seq ?_
 refine VW.cond rfl (fun hc => ?_) (fun hc => ?_)
 ·have hc : kd = 2 := eq_of_beq hc
  rw [if_pos hc] at hr
  repeat refine VW.seq ?_
  refine VW.regl hT fun K hK => ?_
  simp only [wq, simprocAttr]
  refine vcall_of (in_vc x 0 65535) ?_
  simp only [wq, simprocAttr]
  refine vbr (fun h => ?_) (fun h => ?_) <;> simp only [wq, simprocAttr]
  ·have h : inB x 0 65535 = true := h
   refine hK _ ?_
   clear hK K
   try refine vthen_n ?_
   refine VW.ret ⟨.inl rfl, _, rfl, ?_⟩
   rw [← hr, h, Bool.true_and]
  ·have h : inB x 0 65535 = false := h
   refine hK _ ?_
   clear hK K
   try refine vthen_n ?_
   refine VW.ret ⟨.inl rfl, _, rfl, ?_⟩
   rw [← hr, h, Bool.false_and]
 have hc : ¬ kd = 2 := fun e => by rw [e] at hc; cases hc
 rw [if_neg hc] at hr
 repeat refine VW.seq ?_
 refine VW.regl hT fun K hK => ?_
 simp only [wq, simprocAttr]
 refine hK _ ?_
 clear hK K
 try refine vthen_n ?_
 repeat refine VW.seq ?_
 refine VW.cond rfl (fun hc => ?_) (fun hc => ?_)
 ·have e3 : kd = 3 := eq_of_beq hc
  refine VW.skip (vthen_n ?_)
  repeat refine VW.seq ?_
  refine VW.cond rfl (fun hc => ?_) (fun hc => ?_)
  ·skip
   rw [if_pos (by omega)] at hr
   repeat refine VW.seq ?_
   refine VW.regl hT fun K hK => ?_
   simp only [wq, simprocAttr]
   refine vbr (fun h => ?_) (fun h => ?_) <;> simp only [wq, simprocAttr]
   ·have h : (x == 0) = true := h
    refine hK _ ?_
    clear hK K
    try refine vthen_n ?_
    refine VW.ret ⟨.inl rfl, _, rfl, ?_⟩
    rw [← hr, h, Bool.true_and]
   ·have h : (x == 0) = false := h
    refine hK _ ?_
    clear hK K
    try refine vthen_n ?_
    refine VW.ret ⟨.inl rfl, _, rfl, ?_⟩
    rw [← hr, h, Bool.false_and]
  exact absurd hc (by rw [e3]; decide)
 have h3 : ¬ kd = 3 := fun e => by rw [e] at hc; cases hc
 repeat refine VW.seq ?_
 refine VW.regl hT fun K hK => ?_
 simp only [wq, simprocAttr]
 refine hK _ ?_
 clear hK K
 try refine vthen_n ?_
 repeat refine VW.seq ?_
 refine VW.cond rfl (fun hc => ?_) (fun hc => ?_)
 ·have hc : kd = 4 := eq_of_beq hc
  rw [if_pos (by omega)] at hr
  repeat refine VW.seq ?_
  refine VW.regl hT fun K hK => ?_
  simp only [wq, simprocAttr]
  refine vbr (fun h => ?_) (fun h => ?_) <;> simp only [wq, simprocAttr]
  ·have h : (x == 0) = true := h
   refine hK _ ?_
   clear hK K
   try refine vthen_n ?_
   refine VW.ret ⟨.inl rfl, _, rfl, ?_⟩
   rw [← hr, h, Bool.true_and]
  ·have h : (x == 0) = false := h
   refine hK _ ?_
   clear hK K
   try refine vthen_n ?_
   refine VW.ret ⟨.inl rfl, _, rfl, ?_⟩
   rw [← hr, h, Bool.false_and]
 have h4 : ¬ kd = 4 := fun e => by rw [e] at hc; cases hc
 rw [if_neg (by omega)] at hr
 refine VW.skip ?_
 show vthen _ _ _ .normal _
 refine vthen_n ?_
 repeat refine VW.seq ?_
 refine VW.regl hT fun K hK => ?_
 simp only [wq, simprocAttr]
 refine hK _ ?_
 clear hK K
 try refine vthen_n ?_
 refine VW.ret ⟨.inl rfl, _, rfl, ?_⟩
 rw [← hr]
end Go.Proofs.YtmechjnfeidnkaaGreat.V.W
end
section
namespace Go.Proofs.YtmechjnfeidnkaaGreat.V.W
open Go Go.RowKit
/-- an act done -/
def doAct (x : Fab) (a : Ac) : Fab × Int :=
 if (fabOk x && actOk a) = true then
  if a.1 = 1 then storeW x a.2.1 a.2.2.1 [a.2.2.2]
  else if a.1 = 2 then (x, if (loadW x a.2.1 a.2.2.1 1).2 = 0 then (loadW x a.2.1 a.2.2.1 1).1.getD 0 0 else IntKind.i64.wrap (0 - (loadW x a.2.1 a.2.2.1 1).2))
  else ((x.1, x.2.1, x.2.2.1, x.2.2.2.1, (setG x.1 x.2.2.2.2 a.2.1 (a.1 == 4)).1), if (setG x.1 x.2.2.2.2 a.2.1 (a.1 == 4)).2 = true then 1 else 0)
 else (x, -9)
theorem act_addr {a : Ac} (h : actOk a = true) : a.2.2.1 ≤ 65535 := by
 rw [actOk, Bool.and_eq_true] at h
 have h := h.2
 split at h
 ·rw [Bool.and_eq_true] at h
  exact (inB_iff.1 h.1).2
 ·split at h
  ·rw [Bool.and_eq_true] at h
   exact (inB_iff.1 h.1).2
  ·split at h
   ·rw [Bool.and_eq_true] at h
    have := eq_of_beq h.1
    omega
   ·cases h
theorem act_kind {a : Ac} (h : actOk a = true) (h1 : ¬ a.1 = 1) (h2 : ¬ a.1 = 2) : a.1 = 3 ∨ a.1 = 4 := by
 rw [actOk, Bool.and_eq_true] at h
 have h := h.2
 rw [if_neg h1, if_neg h2] at h
 split at h
 ·assumption
 ·cases h
theorem loadW_one (x : Fab) (fr a : Int) (ha : a ≤ 9223372036854775807) (h : (loadW x fr a 1).2 = 0) : (loadW x fr a 1).1.length = 1 := by
 by_cases h0 : (targetOf x fr a 1).2 = 0
 case neg =>
  rw [loadW, if_neg h0] at h
  exact absurd h h0
 rw [loadW, if_pos h0]
 obtain ⟨t, s, b, m, g⟩ := x
 obtain ⟨j, lo, n, e0, h1, h2, h3, h4, h5, h6, h7, h8⟩ := target_good (t := t) (s := s) (b := b) (m := m) (g := g) (fr := fr) (a := a) (l := 1) (k := (targetOf (t, s, b, m, g) fr a 1).1) (Prod.ext rfl h0) ha
 rw [e0, Int.toNat_natCast]
 have h4 : (IntKind.i64.wrap (a - (b.getD j zb).2)).toNat = lo := by rw [h4, Int.toNat_natCast]
 show (List.take 1 (List.drop (IntKind.i64.wrap (a - (b.getD j zb).2)).toNat (m.getD j []))).length = 1
 rw [h4, List.length_take, List.length_drop]
 omega
set_option maxRecDepth 20000 in
set_option maxHeartbeats 4000000 in
theorem doAct_vc (x : Fab) (a : Ac) (hx : FabL x) (hgl : x.2.2.2.2.length ≤ 2000000) : VC Tryz.prog 46 [.v true sFi x, .v true sAct a] (· = rFI (doAct x a)) := by
 refine VC.of_body hT Tryz.func46 rfl (by kernel_rfl) [(.cell 4 32, true, sFi), (.tmp 5, false, .int .i64)] (by kernel_rfl) ?_
 have hcp := copyFabric_vc x hx hgl
 have hfo := fabricOk_vc x hx
 have hao := actOk_vc a
 have haddr := fun h : actOk a = true => act_addr h
 have hkind := fun h : actOk a = true => act_kind h
 generalize hr : doAct x a = r
 rw [doAct] at hr
 have hld := fun h : actOk a = true => loadWords_vc x a.2.1 a.2.2.1 1 hx (by have := haddr h; omega)
 have hlo := fun h : actOk a = true => loadW_one x a.2.1 a.2.2.1 (by have := haddr h; omega)
 have hst := fun h : actOk a = true => storeWords_vc x a.2.1 a.2.2.1 [a.2.2.2] hx hgl (by have := haddr h; omega) (by simp)
 obtain ⟨t, s, b, m, g⟩ := x
 obtain ⟨kd, nd, ax, ay⟩ := a
 have hlt : t.length ≤ 2000000 := hx.a
 have hgl : g.length ≤ 2000000 := hgl
 show VW _ _ ([.v true sFi (t, s, b, m, g), .v true sAct (kd, nd, ax, ay), D, D, D, D, D, D, D, D, D, D, D, D, D, D, D, D, D, D, D, D, D, D, D, D, D, D, D, D, D, D, D, D, D, D, D, D, D, D, D, D, D, D, D, D, D, D, D, D, D, D, D, D, D, D, D, D, D, D, D, D, D, D, D, D, D, D, D, D, D, D, D, D, D, D, D, D, D, D, D, D, D]) _
 repeat refine VW.seq ?_
 refine VW.regl hT fun K hK => ?_
 simp only [wq, simprocAttr]
 refine hK _ ?_
 clear hK K
 try refine vthen_n ?_
 repeat refine VW.seq ?_
 refine VW.regl hT fun K hK => ?_
 simp only [wq, simprocAttr]
 refine vcall_of hcp ?_
 simp only [wq, simprocAttr]
 refine hK _ ?_
 clear hK K
 try refine vthen_n ?_
 repeat refine VW.seq ?_
 refine VW.regl hT fun K hK => ?_
 simp only [wq, simprocAttr]
 refine vcall_of hfo ?_
 simp only [wq, simprocAttr]
 refine vbr (fun h => ?_) (fun h => ?_) <;> simp only [wq, simprocAttr]
 case refine_2 =>
  have h : fabOk (t, s, b, m, g) = false := (Bool.not_eq_true' _).mp h
  refine hK _ ?_
  clear hK K
  try refine vthen_n ?_
  repeat refine VW.seq ?_
  refine VW.cond rfl (fun hc => ?_) (fun hc => ?_)
  ·repeat refine VW.seq ?_
   refine VW.regl hT fun K hK => ?_
   simp only [wq, simprocAttr]
   refine hK _ ?_
   clear hK K
   try refine vthen_n ?_
   refine VW.ret ⟨.inl rfl, _, rfl, ?_⟩
   rw [← hr, if_neg (by rw [h]; simp)]
   try rfl
  ·cases hc
 have hf : fabOk (t, s, b, m, g) = true := by
  have := h
  rwa [Bool.not_eq_false'] at this
 refine vcall_of hao ?_
 simp only [wq, simprocAttr]
 refine hK _ ?_
 clear hK K
 try refine vthen_n ?_
 repeat refine VW.seq ?_
 refine VW.cond rfl (fun hc => ?_) (fun hc => ?_)
 ·have hc : actOk (kd, nd, ax, ay) = false := (Bool.not_eq_true' _).mp hc
  repeat refine VW.seq ?_
  refine VW.regl hT fun K hK => ?_
  simp only [wq, simprocAttr]
  refine hK _ ?_
  clear hK K
  try refine vthen_n ?_
  refine VW.ret ⟨.inl rfl, _, rfl, ?_⟩
  rw [← hr, if_neg (by rw [hc]; simp)]
  try rfl
 have ha : actOk (kd, nd, ax, ay) = true := by
  have := hc
  rwa [Bool.not_eq_false'] at this
 have hld := hld ha
 have hlo := hlo ha
 have hst := hst ha
 have hkind : ¬ kd = 1 → ¬ kd = 2 → kd = 3 ∨ kd = 4 := hkind ha
 rw [if_pos (by rw [hf, ha]; rfl)] at hr
 have hr : (if kd = 1 then storeW (t, s, b, m, g) nd ax [ay] else if kd = 2 then ((t, s, b, m, g), if (loadW (t, s, b, m, g) nd ax 1).2 = 0 then (loadW (t, s, b, m, g) nd ax 1).1.getD 0 0 else IntKind.i64.wrap (0 - (loadW (t, s, b, m, g) nd ax 1).2)) else ((t, s, b, m, (setG t g nd (kd == 4)).1), if (setG t g nd (kd == 4)).2 = true then 1 else 0)) = r := hr
 have hld : VC Tryz.prog 21 [.v true sFi (t, s, b, m, g), .v false (.int .i64) (nd), .v false (.int .i64) (ax), .v false (.int .i64) (1)] (· = rIW (loadW (t, s, b, m, g) nd ax 1)) := hld
 have hlo : (loadW (t, s, b, m, g) nd ax 1).2 = 0 → (loadW (t, s, b, m, g) nd ax 1).1.length = 1 := hlo
 have hst : VC Tryz.prog 17 [.v true sFi (t, s, b, m, g), .v false (.int .i64) (nd), .v false (.int .i64) (ax), .v false sI [ay]] (· = rFI (storeW (t, s, b, m, g) nd ax [ay])) := hst
 clear hcp hfo hao haddr
 refine VW.skip (vthen_n ?_)
 repeat refine VW.seq ?_
 refine VW.regl hT fun K hK => ?_
 simp only [wq, simprocAttr]
 refine hK _ ?_
 clear hK K
 try refine vthen_n ?_
 repeat refine VW.seq ?_
 refine VW.regl hT fun K hK => ?_
 simp only [wq, simprocAttr]
 refine hK _ ?_
 clear hK K
 try refine vthen_n ?_
 repeat refine VW.seq ?_
 refine VW.block ?_
 repeat refine VW.seq ?_
 refine VW.regl hT fun K hK => ?_
 simp only [wq, simprocAttr]
 refine hK _ ?_
 clear hK K
 try refine vthen_n ?_
 repeat refine VW.seq ?_
 refine VW.cond rfl (fun hc => ?_) (fun hc => ?_)
 ·have hc : kd = 1 := eq_of_beq hc
  rw [if_pos hc] at hr
  repeat refine VW.seq ?_
  refine VW.regl hT fun K hK => ?_
  simp only [wq, simprocAttr]
  refine vcall_of hst ?_
  simp only [wq, simprocAttr]
  refine hK _ ?_
  clear hK K
  try refine vthen_n ?_
  refine VW.ret ⟨.inl rfl, _, rfl, ?_⟩
  rw [← hr]
 have h1 : ¬ kd = 1 := fun e => by rw [e] at hc; cases hc
 rw [if_neg h1] at hr
 repeat refine VW.seq ?_
 refine VW.regl hT fun K hK => ?_
 simp only [wq, simprocAttr]
 refine hK _ ?_
 clear hK K
 try refine vthen_n ?_
 repeat refine VW.seq ?_
 refine VW.cond rfl (fun hc => ?_) (fun hc => ?_)
 ·have hc : kd = 2 := eq_of_beq hc
  rw [if_pos hc] at hr
  generalize loadW (t, s, b, m, g) nd ax 1 = q at *
  obtain ⟨ws, c⟩ := q
  repeat refine VW.seq ?_
  refine VW.regl hT fun K hK => ?_
  simp only [wq, simprocAttr]
  refine vcall_of hld ?_
  simp only [wq, simprocAttr]
  refine hK _ ?_
  clear hK K
  try refine vthen_n ?_
  repeat refine VW.seq ?_
  refine VW.regl hT fun K hK => ?_
  simp only [wq, simprocAttr]
  refine hK _ ?_
  clear hK K
  try refine vthen_n ?_
  repeat refine VW.seq ?_
  refine VW.cond rfl (fun hc => ?_) (fun hc => ?_)
  ·repeat refine VW.seq ?_
   refine VW.regl hT fun K hK => ?_
   simp only [wq, simprocAttr]
   refine hK _ ?_
   clear hK K
   try refine vthen_n ?_
   refine VW.ret ⟨.inl rfl, _, rfl, ?_⟩
   rw [← hr, if_neg (by simpa using hc)]
   try rfl
  ·have hc : c = 0 := by simpa using hc
   subst hc
   have hl1 : ws.length = 1 := hlo rfl
   have hr : ((t, s, b, m, g), ws.getD 0 0) = r := hr
   have hW1 : decide ((0 : Int) < (ws.length : Int)) = true := decide_eq_true (by omega)
   refine VW.skip (vthen_n ?_)
   repeat refine VW.seq ?_
   refine VW.any hT hm fun K hK W hW => ?_
   apply cutl; intro tK
   apply cutl; intro t63
   apply cutl; intro t31
   apply cutl; intro t15
   apply cutl; intro t23
   apply cutl; intro t14
   apply cutl; intro t7
   apply cutl; intro t19
   apply cutl; intro t6
   apply cutl; intro t3
   ·refine hW.take 0 1 2 _ (by kernel_rfl) ?_
    simp only [wy, wq, simprocAttr]
    refine hW.all 2 [(0, 3), (2, 6)] _ (by kernel_rfl) (by simp) ?_
    simp only [wy, wq, simprocAttr]
    exact ⟨t3.h, ⟨hW1, t6.h⟩⟩
   ·refine hW.all 3 [(2, 7), (4, 19)] _ (by kernel_rfl) (by simp) ?_
    simp only [wy, wq, simprocAttr]
    exact ⟨⟨hW1, t7.h⟩, t19.h⟩
   ·refine hW.all 6 [(0, 7), (3, 14)] _ (by kernel_rfl) (by simp) ?_
    simp only [wy, wq, simprocAttr]
    exact ⟨t7.h, t14.h⟩
   ·refine hW.all 19 [(2, 23)] _ (by kernel_rfl) (by simp) ?_
    simp only [wy, wq, simprocAttr]
    exact ⟨hW1, t23.h⟩
   ·refine hW.all 7 [(3, 15), (4, 23)] _ (by kernel_rfl) (by simp) ?_
    simp only [wy, wq, simprocAttr]
    exact ⟨t15.h, t23.h⟩
   ·refine hW.all 14 [(0, 15)] _ (by kernel_rfl) (by simp) ?_
    simp only [wy, wq, simprocAttr]
    exact t15.h
   ·refine hW.all 23 [(3, 31)] _ (by kernel_rfl) (by simp) ?_
    simp only [wy, wq, simprocAttr]
    exact t31.h
   ·refine hW.all 15 [(4, 31)] _ (by kernel_rfl) (by simp) ?_
    simp only [wy, wq, simprocAttr]
    exact t31.h
   ·refine hW.all 31 [(5, 63)] _ (by kernel_rfl) (by simp) ?_
    simp only [wy, wq, simprocAttr]
    exact t63.h
   ·refine hW.done 63 _ (by kernel_rfl) ?_
    exact tK.h
   refine hK _ ?_
   clear hW W hK K
   show vthen _ _ _ .normal _
   refine vthen_n ?_
   refine VW.ret ⟨.inl rfl, _, rfl, ?_⟩
   rw [← hr]
   try rfl
 have h2 : ¬ kd = 2 := fun e => by rw [e] at hc; cases hc
 rw [if_neg h2] at hr
 have hk34 := hkind h1 h2
 generalize hp : setG t g nd (kd == 4) = p at *
 repeat refine VW.seq ?_
 refine VW.regl hT fun K hK => ?_
 simp only [wq, simprocAttr]
 refine hK _ ?_
 clear hK K
 try refine vthen_n ?_
 apply cutl
 ·intro tail
  repeat refine VW.seq ?_
  refine VW.cond rfl (fun hc => ?_) (fun hc => ?_)
  ·have hc : kd = 3 := eq_of_beq hc
   have hcn := cutNode_vc t g nd hlt hgl
   rw [show setG t g nd false = p from by rw [← hp, hc]; rfl] at hcn
   repeat refine VW.seq ?_
   refine VW.regl hT fun K hK => ?_
   simp only [wq, simprocAttr]
   refine vcall_of hcn ?_
   simp only [wq, simprocAttr]
   refine hK _ ?_
   clear hK K
   try refine vthen_n ?_
   show vthen _ _ _ .normal _
   refine vthen_n ?_
   refine VW.weak (weak_norm [(4, none), (6, none), (7, none)] _) ?_
   simp only [wn, wq, simprocAttr]
   exact tail.h
  ·have hc : ¬ kd = 3 := fun e => by rw [e] at hc; cases hc
   have hc : kd = 4 := hk34.resolve_left hc
   have hcn := openNode_vc t g nd hlt hgl
   rw [show setG t g nd true = p from by rw [← hp, hc]; rfl] at hcn
   repeat refine VW.seq ?_
   refine VW.regl hT fun K hK => ?_
   simp only [wq, simprocAttr]
   refine vcall_of hcn ?_
   simp only [wq, simprocAttr]
   refine hK _ ?_
   clear hK K
   try refine vthen_n ?_
   show vthen _ _ _ .normal _
   refine vthen_n ?_
   refine VW.weak (weak_norm [(4, none), (6, none), (7, none)] _) ?_
   simp only [wn, wq, simprocAttr]
   exact tail.h
 repeat refine VW.seq ?_
 refine VW.any hT hm fun K hK W hW => ?_
 apply cutl; intro tK
 apply cutl; intro t31
 apply cutl; intro t15
 apply cutl; intro t7
 apply cutl; intro t6
 apply cutl; intro t3
 ·refine hW.take 0 1 2 _ (by kernel_rfl) ?_
  simp only [wy, wq, simprocAttr]
  refine hW.all 2 [(0, 3), (2, 6)] _ (by kernel_rfl) (by simp) ?_
  simp only [wy, wq, simprocAttr]
  refine ⟨?_, ?_⟩
  ·exact t3.h
  ·refine vcall_of (one_vc _) ?_
   simp only [wq, simprocAttr]
   exact t6.h
 ·refine hW.all 3 [(2, 7)] _ (by kernel_rfl) (by simp) ?_
  simp only [wy, wq, simprocAttr]
  skip
  refine vcall_of (one_vc _) ?_
  simp only [wq, simprocAttr]
  exact t7.h
 ·refine hW.all 6 [(0, 7)] _ (by kernel_rfl) (by simp) ?_
  simp only [wy, wq, simprocAttr]
  exact t7.h
 ·refine hW.all 7 [(3, 15)] _ (by kernel_rfl) (by simp) ?_
  simp only [wy, wq, simprocAttr]
  exact t15.h
 ·refine hW.all 15 [(4, 31)] _ (by kernel_rfl) (by simp) ?_
  simp only [wy, wq, simprocAttr]
  exact t31.h
 ·refine hW.done 31 _ (by kernel_rfl) ?_
  exact tK.h
 refine hK _ ?_
 clear hW W hK K
 show vthen _ _ _ .normal _
 refine vthen_n ?_
 refine VW.ret ⟨.inl rfl, _, rfl, ?_⟩
 rw [← hr]
 try rfl
set_option maxRecDepth 20000 in
set_option maxHeartbeats 4000000 in
theorem specDoAct_vc (x : Fab) (a : Ac) (hx : FabL x) (hgl : x.2.2.2.2.length ≤ 2000000) : VC Tryz.prog 44 [.v true sFi x, .v true sAct a] (· = rFI (doAct x a)) := by
 refine VC.of_body hT Tryz.func44 rfl (by kernel_rfl) [(.cell 4 32, true, sFi), (.tmp 5, false, .int .i64)] (by kernel_rfl) ?_
 have hcp := specCopy_vc x hx hgl
 have hfo := specFabricOk_vc x hx
 have hao := specActOk_vc a
 have haddr := fun h : actOk a = true => act_addr h
 have hkind := fun h : actOk a = true => act_kind h
 generalize hr : doAct x a = r
 rw [doAct] at hr
 have hld := fun h : actOk a = true => specLoadWords_vc x a.2.1 a.2.2.1 1 hx (by have := haddr h; omega)
 have hlo := fun h : actOk a = true => loadW_one x a.2.1 a.2.2.1 (by have := haddr h; omega)
 have hst := fun h : actOk a = true => specStoreWords_vc x a.2.1 a.2.2.1 [a.2.2.2] hx hgl (by have := haddr h; omega) (by simp)
 obtain ⟨t, s, b, m, g⟩ := x
 obtain ⟨kd, nd, ax, ay⟩ := a
 have hlt : t.length ≤ 2000000 := hx.a
 have hgl : g.length ≤ 2000000 := hgl
 show VW _ _ ([.v true sFi (t, s, b, m, g), .v true sAct (kd, nd, ax, ay), D, D, D, D, D, D, D, D, D, D, D, D, D, D, D, D, D, D, D, D, D, D, D, D, D, D, D, D, D, D, D, D, D, D, D, D, D, D, D, D, D, D, D, D, D, D, D, D, D, D, D, D, D, D, D, D, D, D, D, D, D, D, D, D, D, D, D, D, D, D, D, D, D]) _
 repeat refine VW.seq ?_
 refine VW.regl hT fun K hK => ?_
 simp only [wq, simprocAttr]
 refine hK _ ?_
 clear hK K
 try refine vthen_n ?_
 repeat refine VW.seq ?_
 refine VW.regl hT fun K hK => ?_
 simp only [wq, simprocAttr]
 refine vcall_of hcp ?_
 simp only [wq, simprocAttr]
 refine hK _ ?_
 clear hK K
 try refine vthen_n ?_
 repeat refine VW.seq ?_
 refine VW.regl hT fun K hK => ?_
 simp only [wq, simprocAttr]
 refine vcall_of hfo ?_
 simp only [wq, simprocAttr]
 refine vbr (fun h => ?_) (fun h => ?_) <;> simp only [wq, simprocAttr]
 case refine_2 =>
  have h : fabOk (t, s, b, m, g) = false := (Bool.not_eq_true' _).mp h
  refine hK _ ?_
  clear hK K
  try refine vthen_n ?_
  repeat refine VW.seq ?_
  refine VW.cond rfl (fun hc => ?_) (fun hc => ?_)
  ·repeat refine VW.seq ?_
   refine VW.regl hT fun K hK => ?_
   simp only [wq, simprocAttr]
   refine hK _ ?_
   clear hK K
   try refine vthen_n ?_
   refine VW.ret ⟨.inl rfl, _, rfl, ?_⟩
   rw [← hr, if_neg (by rw [h]; simp)]
   try rfl
  ·cases hc
 have hf : fabOk (t, s, b, m, g) = true := by
  have := h
  rwa [Bool.not_eq_false'] at this
 refine vcall_of hao ?_
 simp only [wq, simprocAttr]
 refine hK _ ?_
 clear hK K
 try refine vthen_n ?_
 repeat refine VW.seq ?_
 refine VW.cond rfl (fun hc => ?_) (fun hc => ?_)
 ·have hc : actOk (kd, nd, ax, ay) = false := (Bool.not_eq_true' _).mp hc
  repeat refine VW.seq ?_
  refine VW.regl hT fun K hK => ?_
  simp only [wq, simprocAttr]
  refine hK _ ?_
  clear hK K
  try refine vthen_n ?_
  refine VW.ret ⟨.inl rfl, _, rfl, ?_⟩
  rw [← hr, if_neg (by rw [hc]; simp)]
  try rfl
 have ha : actOk (kd, nd, ax, ay) = true := by
  have := hc
  rwa [Bool.not_eq_false'] at this
 have hld := hld ha
 have hlo := hlo ha
 have hst := hst ha
 have hkind : ¬ kd = 1 → ¬ kd = 2 → kd = 3 ∨ kd = 4 := hkind ha
 rw [if_pos (by rw [hf, ha]; rfl)] at hr
 have hr : (if kd = 1 then storeW (t, s, b, m, g) nd ax [ay] else if kd = 2 then ((t, s, b, m, g), if (loadW (t, s, b, m, g) nd ax 1).2 = 0 then (loadW (t, s, b, m, g) nd ax 1).1.getD 0 0 else IntKind.i64.wrap (0 - (loadW (t, s, b, m, g) nd ax 1).2)) else ((t, s, b, m, (setG t g nd (kd == 4)).1), if (setG t g nd (kd == 4)).2 = true then 1 else 0)) = r := hr
 have hld : VC Tryz.prog 32 [.v true sFi (t, s, b, m, g), .v false (.int .i64) (nd), .v false (.int .i64) (ax), .v false (.int .i64) (1)] (· = rIW (loadW (t, s, b, m, g) nd ax 1)) := hld
 have hlo : (loadW (t, s, b, m, g) nd ax 1).2 = 0 → (loadW (t, s, b, m, g) nd ax 1).1.length = 1 := hlo
 have hst : VC Tryz.prog 37 [.v true sFi (t, s, b, m, g), .v false (.int .i64) (nd), .v false (.int .i64) (ax), .v false sI [ay]] (· = rFI (storeW (t, s, b, m, g) nd ax [ay])) := hst
 clear hcp hfo hao haddr
 refine VW.skip (vthen_n ?_)
 repeat refine VW.seq ?_
 refine VW.regl hT fun K hK => ?_
 simp only [wq, simprocAttr]
 refine hK _ ?_
 clear hK K
 try refine vthen_n ?_
 repeat refine VW.seq ?_
 refine VW.block ?_
 repeat refine VW.seq ?_
 refine VW.regl hT fun K hK => ?_
 simp only [wq, simprocAttr]
 refine hK _ ?_
 clear hK K
 try refine vthen_n ?_
 repeat refine VW.seq ?_
 refine VW.cond rfl (fun hc => ?_) (fun hc => ?_)
 ·have hc : kd = 1 := eq_of_beq hc
  rw [if_pos hc] at hr
  repeat refine VW.seq ?_
  refine VW.regl hT fun K hK => ?_
  simp only [wq, simprocAttr]
  refine vcall_of hst ?_
  simp only [wq, simprocAttr]
  refine hK _ ?_
  clear hK K
  try refine vthen_n ?_
  refine VW.ret ⟨.inl rfl, _, rfl, ?_⟩
  rw [← hr]
 have h1 : ¬ kd = 1 := fun e => by rw [e] at hc; cases hc
 rw [if_neg h1] at hr
 repeat refine VW.seq ?_
 refine VW.regl hT fun K hK => ?_
 simp only [wq, simprocAttr]
 refine hK _ ?_
 clear hK K
 try refine vthen_n ?_
 repeat refine VW.seq ?_
 refine VW.cond rfl (fun hc => ?_) (fun hc => ?_)
 ·have hc : kd = 2 := eq_of_beq hc
  rw [if_pos hc] at hr
  generalize loadW (t, s, b, m, g) nd ax 1 = q at *
  obtain ⟨ws, c⟩ := q
  repeat refine VW.seq ?_
  refine VW.regl hT fun K hK => ?_
  simp only [wq, simprocAttr]
  refine vcall_of hld ?_
  simp only [wq, simprocAttr]
  refine hK _ ?_
  clear hK K
  try refine vthen_n ?_
  repeat refine VW.seq ?_
  refine VW.regl hT fun K hK => ?_
  simp only [wq, simprocAttr]
  refine hK _ ?_
  clear hK K
  try refine vthen_n ?_
  repeat refine VW.seq ?_
  refine VW.cond rfl (fun hc => ?_) (fun hc => ?_)
  ·repeat refine VW.seq ?_
   refine VW.regl hT fun K hK => ?_
   simp only [wq, simprocAttr]
   refine hK _ ?_
   clear hK K
   try refine vthen_n ?_
   refine VW.ret ⟨.inl rfl, _, rfl, ?_⟩
   rw [← hr, if_neg (by simpa using hc)]
   try rfl
  ·have hc : c = 0 := by simpa using hc
   subst hc
   have hl1 : ws.length = 1 := hlo rfl
   have hr : ((t, s, b, m, g), ws.getD 0 0) = r := hr
   have hW1 : decide ((0 : Int) < (ws.length : Int)) = true := decide_eq_true (by omega)
   refine VW.skip (vthen_n ?_)
   repeat refine VW.seq ?_
   refine VW.any hT hm fun K hK W hW => ?_
   apply cutl; intro tK
   apply cutl; intro t63
   apply cutl; intro t31
   apply cutl; intro t15
   apply cutl; intro t23
   apply cutl; intro t14
   apply cutl; intro t7
   apply cutl; intro t19
   apply cutl; intro t6
   apply cutl; intro t3
   ·refine hW.take 0 1 2 _ (by kernel_rfl) ?_
    simp only [wy, wq, simprocAttr]
    refine hW.all 2 [(0, 3), (2, 6)] _ (by kernel_rfl) (by simp) ?_
    simp only [wy, wq, simprocAttr]
    exact ⟨t3.h, ⟨hW1, t6.h⟩⟩
   ·refine hW.all 3 [(2, 7), (4, 19)] _ (by kernel_rfl) (by simp) ?_
    simp only [wy, wq, simprocAttr]
    exact ⟨⟨hW1, t7.h⟩, t19.h⟩
   ·refine hW.all 6 [(0, 7), (3, 14)] _ (by kernel_rfl) (by simp) ?_
    simp only [wy, wq, simprocAttr]
    exact ⟨t7.h, t14.h⟩
   ·refine hW.all 19 [(2, 23)] _ (by kernel_rfl) (by simp) ?_
    simp only [wy, wq, simprocAttr]
    exact ⟨hW1, t23.h⟩
   ·refine hW.all 7 [(3, 15), (4, 23)] _ (by kernel_rfl) (by simp) ?_
    simp only [wy, wq, simprocAttr]
    exact ⟨t15.h, t23.h⟩
   ·refine hW.all 14 [(0, 15)] _ (by kernel_rfl) (by simp) ?_
    simp only [wy, wq, simprocAttr]
    exact t15.h
   ·refine hW.all 23 [(3, 31)] _ (by kernel_rfl) (by simp) ?_
    simp only [wy, wq, simprocAttr]
    exact t31.h
   ·refine hW.all 15 [(4, 31)] _ (by kernel_rfl) (by simp) ?_
    simp only [wy, wq, simprocAttr]
    exact t31.h
   ·refine hW.all 31 [(5, 63)] _ (by kernel_rfl) (by simp) ?_
    simp only [wy, wq, simprocAttr]
    exact t63.h
   ·refine hW.done 63 _ (by kernel_rfl) ?_
    exact tK.h
   refine hK _ ?_
   clear hW W hK K
   show vthen _ _ _ .normal _
   refine vthen_n ?_
   refine VW.ret ⟨.inl rfl, _, rfl, ?_⟩
   rw [← hr]
   try rfl
 have h2 : ¬ kd = 2 := fun e => by rw [e] at hc; cases hc
 rw [if_neg h2] at hr
 generalize hp : setG t g nd (kd == 4) = p at *
 refine VW.skip ?_
 show vthen _ _ _ .normal _
 refine vthen_n ?_
 have hcn := specSetNode_vc t g nd (kd == 4) hlt hgl
 rw [hp] at hcn
 repeat refine VW.seq ?_
 refine VW.regl hT fun K hK => ?_
 simp only [wq, simprocAttr]
 refine vcall_of hcn ?_
 simp only [wq, simprocAttr]
 refine hK _ ?_
 clear hK K
 try refine vthen_n ?_
 repeat refine VW.seq ?_
 refine VW.regl hT fun K hK => ?_
 simp only [wq, simprocAttr]
 refine hK _ ?_
 clear hK K
 try refine vthen_n ?_
 repeat refine VW.seq ?_
 refine VW.regl hT fun K hK => ?_
 simp only [wq, simprocAttr]
 refine hK _ ?_
 clear hK K
 try refine vthen_n ?_
 repeat refine VW.seq ?_
 refine VW.cond rfl (fun hc => ?_) (fun hc => ?_)
 ·have hc : p.2 = true := hc
  repeat refine VW.seq ?_
  refine VW.regl hT fun K hK => ?_
  simp only [wq, simprocAttr]
  refine hK _ ?_
  clear hK K
  try refine vthen_n ?_
  refine VW.ret ⟨.inl rfl, _, rfl, ?_⟩
  rw [← hr, if_pos hc]
  try rfl
 have hc : p.2 = false := hc
 refine VW.skip (vthen_n ?_)
 repeat refine VW.seq ?_
 refine VW.regl hT fun K hK => ?_
 simp only [wq, simprocAttr]
 refine hK _ ?_
 clear hK K
 try refine vthen_n ?_
 refine VW.ret ⟨.inl rfl, _, rfl, ?_⟩
 rw [← hr, if_neg (by rw [hc]; decide)]
 try rfl
end Go.Proofs.YtmechjnfeidnkaaGreat.V.W
end
section
namespace Go.Proofs.YtmechjnfeidnkaaGreat.V.W
open Go Go.RowKit
abbrev zA : Ac := (0, 0, 0, 0)
abbrev sAS : Sh := .sl 79 sAct
theorem doAct_sh (x : Fab) (a : Ac) : FabSh x (doAct x a).1 := by
 rw [doAct]
 split
 ·rename_i h
  rw [Bool.and_eq_true] at h
  have := act_addr h.2
  split
  ·exact storeW_sh x _ _ _ (by omega)
  ·split
   ·exact FabSh.refl x
   ·exact ⟨rfl, rfl, rfl, rfl, fun _ => rfl, setG_len _ _ _ _⟩
 ·exact FabSh.refl x
/-- acts done one behind the other -/
def runTo (x : Fab) (ks : List Ac) : Fab × List Int := ks.foldl (fun p a => ((doAct p.1 a).1, p.2 ++ [(doAct p.1 a).2])) (x, [])
theorem runTo_succ (x : Fab) {ks : List Ac} {i : Nat} (h : i < ks.length) : runTo x (ks.take (i + 1)) = ((doAct (runTo x (ks.take i)).1 (ks.getD i zA)).1, (runTo x (ks.take i)).2 ++ [(doAct (runTo x (ks.take i)).1 (ks.getD i zA)).2]) := by
 have e : ks.take (i + 1) = ks.take i ++ [ks.getD i zA] := by
  rw [List.take_add_one, List.getElem?_eq_getElem h, List.getD_eq_getElem?_getD, List.getElem?_eq_getElem h]
  rfl
 rw [e, runTo, List.foldl_append]
 rfl
theorem runTo_sh (x : Fab) (ks : List Ac) : ∀ i, i ≤ ks.length → FabSh x (runTo x (ks.take i)).1 ∧ (runTo x (ks.take i)).2.length = i
 | 0, _ => ⟨FabSh.refl x, rfl⟩
 | i + 1, h => by
  obtain ⟨h1, h2⟩ := runTo_sh x ks i (by omega)
  rw [runTo_succ x (by omega)]
  exact ⟨h1.trans (doAct_sh _ _), by show (_ ++ [_]).length = _; rw [List.length_append, h2]; rfl⟩
def runActs (x : Fab) (ks : List Ac) : Fab × List Int := if (fabOk x && decide (ks.length ≤ 40)) = true then runTo x ks else (x, [])
theorem runActs_sh (x : Fab) (ks : List Ac) : FabSh x (runActs x ks).1 ∧ (runActs x ks).2.length ≤ 40 := by
 rw [runActs]
 split
 ·rename_i h
  rw [Bool.and_eq_true] at h
  have h2 : ks.length ≤ 40 := of_decide_eq_true h.2
  obtain ⟨h3, h4⟩ := runTo_sh x ks ks.length (Nat.le_refl _)
  rw [List.take_length] at h3 h4
  exact ⟨h3, by omega⟩
 ·exact ⟨FabSh.refl x, Nat.zero_le _⟩
abbrev rFL (p : Fab × List Int) : PV := .root (.tup [true, false]) (.pr sFi sI) (.pr fFab .own) p
set_option maxRecDepth 20000 in
set_option maxHeartbeats 4000000 in
theorem runActs_vc (x : Fab) (ks : List Ac) (hx : FabL x) (hgl : x.2.2.2.2.length ≤ 2000000) (hal : ks.length ≤ 2000000) : VC Tryz.prog 25 [.v true sFi x, .v false sAS ks] (· = rFL (runActs x ks)) := by
 refine VC.of_body hT Tryz.func25 rfl (by kernel_rfl) [(.cell 4 32, true, sFi), (.tmp 5, false, sI)] (by kernel_rfl) ?_
 have hcp := copyFabric_vc x hx hgl
 have hfo := fabricOk_vc x hx
 have hda := fun (i : Nat) (h : i ≤ ks.length) => doAct_vc (runTo x (ks.take i)).1 (ks.getD i zA) ((runTo_sh x ks i h).1.toL hx) (by rw [(runTo_sh x ks i h).1.f]; exact hgl)
 have hrl := fun (i : Nat) (h : i ≤ ks.length) => (runTo_sh x ks i h).2
 have hrs := fun (i : Nat) (h : i < ks.length) => runTo_succ x h
 have hr0 : runTo x (ks.take 0) = (x, []) := rfl
 generalize hr : runActs x ks = r
 rw [runActs] at hr
 show VW _ _ ([.v true sFi x, .v false sAS ks, D, D, D, D, D, D, D, D, D, D, D, D, D, D, D, D, D, D, D, D, D, D, D, D, D, D, D, D, D, D, D, D, D, D, D, D, D, D, D, D, D, D]) _
 repeat refine VW.seq ?_
 refine VW.regl hT fun K hK => ?_
 simp only [wq, simprocAttr]
 refine hK _ ?_
 clear hK K
 try refine vthen_n ?_
 repeat refine VW.seq ?_
 refine VW.regl hT fun K hK => ?_
 simp only [wq, simprocAttr]
 refine vcall_of hcp ?_
 simp only [wq, simprocAttr]
 refine hK _ ?_
 clear hK K
 try refine vthen_n ?_
 repeat refine VW.seq ?_
 refine VW.regl hT fun K hK => ?_
 simp only [wq, simprocAttr]
 refine vcall_of hfo ?_
 simp only [wq, simprocAttr]
 refine vbr (fun h => ?_) (fun h => ?_) <;> simp only [wq, simprocAttr]
 case refine_2 =>
  have h : fabOk x = false := (Bool.not_eq_true' _).mp h
  refine hK _ ?_
  clear hK K
  try refine vthen_n ?_
  repeat refine VW.seq ?_
  refine VW.cond rfl (fun hc => ?_) (fun hc => ?_)
  ·repeat refine VW.seq ?_
   refine VW.regl hT fun K hK => ?_
   simp only [wq, simprocAttr]
   refine hK _ ?_
   clear hK K
   try refine vthen_n ?_
   refine VW.ret ⟨.inl rfl, _, rfl, ?_⟩
   rw [← hr, if_neg (by rw [h]; simp)]
   rfl
  ·cases hc
 have hf : fabOk x = true := by
  have := h
  rwa [Bool.not_eq_false'] at this
 refine hK _ ?_
 clear hK K
 try refine vthen_n ?_
 repeat refine VW.seq ?_
 refine VW.cond rfl (fun hc => ?_) (fun hc => ?_)
 ·have hc : (ks.length : Int) > 40 := of_decide_eq_true hc
  repeat refine VW.seq ?_
  refine VW.regl hT fun K hK => ?_
  simp only [wq, simprocAttr]
  refine hK _ ?_
  clear hK K
  try refine vthen_n ?_
  refine VW.ret ⟨.inl rfl, _, rfl, ?_⟩
  rw [← hr, if_neg (by rw [decide_eq_false (by omega), Bool.and_false]; decide)]
  rfl
 have hc : ¬ (ks.length : Int) > 40 := of_decide_eq_false hc
 rw [if_pos (by rw [hf, decide_eq_true (by omega)]; rfl)] at hr
 refine VW.skip (vthen_n ?_)
 repeat refine VW.seq ?_
 refine VW.regl hT fun K hK => ?_
 simp only [wq, simprocAttr]
 refine hK _ ?_
 clear hK K
 try refine vthen_n ?_
 repeat refine VW.seq ?_
 refine VW.block ?_
 refine VW.loop (α := Nat) [(4, none), (6, none), (7, some (3, .int .i64)), (24, none), (25, none), (26, none)] (fun i => [D, D, D, D, .root (.box 32) sFi .own ([], [], [], [], []), D, .root (.box 32) sFi fFab (runTo x (ks.take i)).1, .root (.val false) sI .own (runTo x (ks.take i)).2, D, D, D, D, D, D, D, D, D, D, D, D, D, D, D, D, .v false sAS ks, .v false (.int .i64) ((ks.length : Nat)), .v false (.int .i64) ((i : Nat)), D, D, D, D, D, D, D, D, D, D, D, D, D, D, D, D, D]) (fun i => i ≤ ks.length) (fun i => ks.length - i) ⟨0, by omega, ?_⟩ fun i hi => ?_
 ·simp only [wn, wq, simprocAttr]
  rw [hr0]
 repeat refine VW.seq ?_
 refine VW.regl hT fun K hK => ?_
 simp only [wq, simprocAttr]
 refine hK _ ?_
 clear hK K
 try refine vthen_n ?_
 repeat refine VW.seq ?_
 refine VW.cond rfl (fun hc => ?_) (fun hc => ?_)
 ·have hlt : i < ks.length := by simpa using hc
  have hda := hda i hi
  have hrl := hrl i hi
  have hrs := hrs i hlt
  generalize runTo x (ks.take i) = p at *
  obtain ⟨y, ns⟩ := p
  have hrl : ns.length = i := hrl
  have hda : VC Tryz.prog 46 [.v true sFi y, .v true sAct (ks.getD i zA)] (· = rFI (doAct y (ks.getD i zA))) := hda
  have hrs : runTo x (ks.take (i + 1)) = ((doAct y (ks.getD i zA)).1, ns ++ [(doAct y (ks.getD i zA)).2]) := hrs
  generalize doAct y (ks.getD i zA) = q at *
  obtain ⟨y', c⟩ := q
  refine VW.skip (vthen_n ?_)
  repeat refine VW.seq ?_
  refine VW.block ?_
  repeat refine VW.seq ?_
  refine VW.regl hT fun K hK => ?_
  simp only [wq, simprocAttr]
  refine ⟨decide_eq_true ⟨Int.natCast_nonneg _, by show (i : Int) < (ks.length : Int); omega⟩, ?_⟩
  refine hK _ ?_
  clear hK K
  try refine vthen_n ?_
  repeat refine VW.seq ?_
  refine VW.regl hT fun K hK => ?_
  simp only [wq, simprocAttr]
  refine vcall_of hda ?_
  simp only [wq, simprocAttr]
  refine hK _ ?_
  clear hK K
  try refine vthen_n ?_
  have hN : limOk (ns.length + 1) 8 = true := by simp only [limOk]; exact decide_eq_true (by omega)
  repeat refine VW.seq ?_
  refine VW.any hT hm fun K hK W hW => ?_
  apply cutl; intro tK
  apply cutl; intro t127
  apply cutl; intro t63
  apply cutl; intro t31
  apply cutl; intro t30
  apply cutl; intro t15
  apply cutl; intro t14
  apply cutl; intro t7
  ·refine hW.take 0 1 2 _ (by kernel_rfl) ?_
   simp only [wy, wq, simprocAttr]
   refine hW.take 2 2 6 _ (by kernel_rfl) ?_
   simp only [wy, wq, simprocAttr]
   refine hW.all 6 [(0, 7), (3, 14)] _ (by kernel_rfl) (by simp) ?_
   simp only [wy, wq, simprocAttr]
   exact ⟨t7.h, t14.h⟩
  ·refine hW.all 7 [(3, 15)] _ (by kernel_rfl) (by simp) ?_
   simp only [wy, wq, simprocAttr]
   exact t15.h
  ·refine hW.all 14 [(0, 15), (4, 30)] _ (by kernel_rfl) (by simp) ?_
   simp only [wy, wq, simprocAttr]
   exact ⟨t15.h, ⟨hN, t30.h⟩⟩
  ·refine hW.all 15 [(4, 31)] _ (by kernel_rfl) (by simp) ?_
   simp only [wy, wq, simprocAttr]
   exact ⟨hN, t31.h⟩
  ·refine hW.all 30 [(0, 31)] _ (by kernel_rfl) (by simp) ?_
   simp only [wy, wq, simprocAttr]
   exact t31.h
  ·refine hW.all 31 [(5, 63)] _ (by kernel_rfl) (by simp) ?_
   simp only [wy, wq, simprocAttr]
   exact t63.h
  ·refine hW.all 63 [(6, 127)] _ (by kernel_rfl) (by simp) ?_
   simp only [wy, wq, simprocAttr]
   exact t127.h
  ·refine hW.done 127 _ (by kernel_rfl) ?_
   exact tK.h
  refine hK _ ?_
  clear hW W hK K
  show vthen _ _ _ .normal _
  refine vthen_n ?_
  repeat refine VW.seq ?_
  refine VW.regl hT fun K hK => ?_
  simp only [wq, simprocAttr]
  refine hK _ ?_
  clear hK K
  try refine vthen_n ?_
  refine ⟨i + 1, hlt, ?_, by show ks.length - (i + 1) < ks.length - i; omega⟩
  simp only [wn, wq, simprocAttr]
  rw [hrs, wrap64 (by omega) (by omega), show (i : Int) + 1 = ((i + 1 : Nat) : Int) by omega]
 ·have hge : i = ks.length := by
   have hc : ¬ (i : Int) < (ks.length : Int) := of_decide_eq_false hc
   omega
  subst hge
  rw [List.take_length, hr]
  refine VW.exit ?_
  show vthen _ _ _ .normal _
  refine vthen_n ?_
  repeat refine VW.seq ?_
  refine VW.regl hT fun K hK => ?_
  simp only [wq, simprocAttr]
  refine hK _ ?_
  clear hK K
  try refine vthen_n ?_
  exact VW.ret ⟨.inl rfl, _, rfl, rfl⟩
set_option maxRecDepth 20000 in
set_option maxHeartbeats 4000000 in
theorem specRunActs_vc (x : Fab) (ks : List Ac) (hx : FabL x) (hgl : x.2.2.2.2.length ≤ 2000000) (hal : ks.length ≤ 2000000) : VC Tryz.prog 47 [.v true sFi x, .v false sAS ks] (· = rFL (runActs x ks)) := by
 refine VC.of_body hT Tryz.func47 rfl (by kernel_rfl) [(.cell 4 32, true, sFi), (.tmp 5, false, sI)] (by kernel_rfl) ?_
 have hcp := specCopy_vc x hx hgl
 have hfo := specFabricOk_vc x hx
 have hda := fun (i : Nat) (h : i ≤ ks.length) => specDoAct_vc (runTo x (ks.take i)).1 (ks.getD i zA) ((runTo_sh x ks i h).1.toL hx) (by rw [(runTo_sh x ks i h).1.f]; exact hgl)
 have hrl := fun (i : Nat) (h : i ≤ ks.length) => (runTo_sh x ks i h).2
 have hrs := fun (i : Nat) (h : i < ks.length) => runTo_succ x h
 have hr0 : runTo x (ks.take 0) = (x, []) := rfl
 generalize hr : runActs x ks = r
 rw [runActs] at hr
 show VW _ _ ([.v true sFi x, .v false sAS ks, D, D, D, D, D, D, D, D, D, D, D, D, D, D, D, D, D, D, D, D, D, D, D, D, D, D, D, D, D, D, D, D, D, D, D, D, D, D, D, D, D, D, D, D]) _
 repeat refine VW.seq ?_
 refine VW.regl hT fun K hK => ?_
 simp only [wq, simprocAttr]
 refine hK _ ?_
 clear hK K
 try refine vthen_n ?_
 repeat refine VW.seq ?_
 refine VW.regl hT fun K hK => ?_
 simp only [wq, simprocAttr]
 refine vcall_of hcp ?_
 simp only [wq, simprocAttr]
 refine hK _ ?_
 clear hK K
 try refine vthen_n ?_
 repeat refine VW.seq ?_
 refine VW.regl hT fun K hK => ?_
 simp only [wq, simprocAttr]
 refine hK _ ?_
 clear hK K
 try refine vthen_n ?_
 repeat refine VW.seq ?_
 refine VW.regl hT fun K hK => ?_
 simp only [wq, simprocAttr]
 refine vcall_of hfo ?_
 simp only [wq, simprocAttr]
 refine vbr (fun h => ?_) (fun h => ?_) <;> simp only [wq, simprocAttr]
 case refine_2 =>
  have h : fabOk x = false := (Bool.not_eq_true' _).mp h
  refine hK _ ?_
  clear hK K
  try refine vthen_n ?_
  repeat refine VW.seq ?_
  refine VW.cond rfl (fun hc => ?_) (fun hc => ?_)
  ·repeat refine VW.seq ?_
   refine VW.regl hT fun K hK => ?_
   simp only [wq, simprocAttr]
   refine hK _ ?_
   clear hK K
   try refine vthen_n ?_
   refine VW.ret ⟨.inl rfl, _, rfl, ?_⟩
   rw [← hr, if_neg (by rw [h]; simp)]
   rfl
  ·cases hc
 have hf : fabOk x = true := by
  have := h
  rwa [Bool.not_eq_false'] at this
 refine hK _ ?_
 clear hK K
 try refine vthen_n ?_
 repeat refine VW.seq ?_
 refine VW.cond rfl (fun hc => ?_) (fun hc => ?_)
 ·have hc : (ks.length : Int) > 40 := of_decide_eq_true hc
  repeat refine VW.seq ?_
  refine VW.regl hT fun K hK => ?_
  simp only [wq, simprocAttr]
  refine hK _ ?_
  clear hK K
  try refine vthen_n ?_
  refine VW.ret ⟨.inl rfl, _, rfl, ?_⟩
  rw [← hr, if_neg (by rw [decide_eq_false (by omega), Bool.and_false]; decide)]
  rfl
 have hc : ¬ (ks.length : Int) > 40 := of_decide_eq_false hc
 rw [if_pos (by rw [hf, decide_eq_true (by omega)]; rfl)] at hr
 refine VW.skip (vthen_n ?_)
 repeat refine VW.seq ?_
 refine VW.regl hT fun K hK => ?_
 simp only [wq, simprocAttr]
 refine hK _ ?_
 clear hK K
 try refine vthen_n ?_
 repeat refine VW.seq ?_
 refine VW.block ?_
 refine VW.loop (α := Nat) [(1, none), (4, none), (6, none), (7, some (3, .int .i64)), (8, none)] (fun i => [D, .v false sAS ks, D, D, .root (.box 32) sFi .own ([], [], [], [], []), D, .root (.box 32) sFi fFab (runTo x (ks.take i)).1, .root (.val false) sI .own (runTo x (ks.take i)).2, .v false (.int .i64) ((i : Nat)), D, D, D, D, D, D, D, D, D, D, D, D, D, D, D, D, D, D, D, D, D, D, D, D, D, D, D, D, D, D, D, D, D, D, D, D, D]) (fun i => i ≤ ks.length) (fun i => ks.length - i) ⟨0, by omega, ?_⟩ fun i hi => ?_
 ·simp only [wn, wq, simprocAttr]
  rw [hr0]
 repeat refine VW.seq ?_
 refine VW.regl hT fun K hK => ?_
 simp only [wq, simprocAttr]
 refine hK _ ?_
 clear hK K
 try refine vthen_n ?_
 repeat refine VW.seq ?_
 refine VW.cond rfl (fun hc => ?_) (fun hc => ?_)
 ·have hlt : i < ks.length := by simpa using hc
  have hda := hda i hi
  have hrl := hrl i hi
  have hrs := hrs i hlt
  generalize runTo x (ks.take i) = p at *
  obtain ⟨y, ns⟩ := p
  have hrl : ns.length = i := hrl
  have hda : VC Tryz.prog 44 [.v true sFi y, .v true sAct (ks.getD i zA)] (· = rFI (doAct y (ks.getD i zA))) := hda
  have hrs : runTo x (ks.take (i + 1)) = ((doAct y (ks.getD i zA)).1, ns ++ [(doAct y (ks.getD i zA)).2]) := hrs
  generalize doAct y (ks.getD i zA) = q at *
  obtain ⟨y', c⟩ := q
  refine VW.skip (vthen_n ?_)
  repeat refine VW.seq ?_
  refine VW.block ?_
  have hI : decide (0 ≤ (i : Int) ∧ (i : Int) < (ks.length : Int)) = true := decide_eq_true ⟨Int.natCast_nonneg _, by omega⟩
  have hdo := hda
  repeat refine VW.seq ?_
  refine VW.any hT hm fun K hK W hW => ?_
  apply cutl; intro tK
  apply cutl; intro t4095
  apply cutl; intro t2047
  apply cutl; intro t1023
  apply cutl; intro t1791
  apply cutl; intro t895
  apply cutl; intro t767
  apply cutl; intro t511
  apply cutl; intro t639
  apply cutl; intro t383
  apply cutl; intro t255
  apply cutl; intro t575
  apply cutl; intro t127
  apply cutl; intro t543
  apply cutl; intro t63
  apply cutl; intro t542
  apply cutl; intro t527
  apply cutl; intro t31
  apply cutl; intro t526
  apply cutl; intro t519
  apply cutl; intro t30
  apply cutl; intro t15
  apply cutl; intro t518
  apply cutl; intro t14
  apply cutl; intro t7
  ·refine hW.take 0 1 2 _ (by kernel_rfl) ?_
   simp only [wy, wq, simprocAttr]
   refine hW.take 2 2 6 _ (by kernel_rfl) ?_
   simp only [wy, wq, simprocAttr]
   refine hW.all 6 [(0, 7), (3, 14), (9, 518)] _ (by kernel_rfl) (by simp) ?_
   simp only [wy, wq, simprocAttr]
   exact ⟨t7.h, ⟨hI, t14.h⟩, t518.h⟩
  ·refine hW.all 7 [(3, 15), (9, 519)] _ (by kernel_rfl) (by simp) ?_
   simp only [wy, wq, simprocAttr]
   exact ⟨⟨hI, t15.h⟩, t519.h⟩
  ·refine hW.all 14 [(0, 15), (4, 30), (9, 526)] _ (by kernel_rfl) (by simp) ?_
   simp only [wy, wq, simprocAttr]
   exact ⟨t15.h, t30.h, t526.h⟩
  ·refine hW.all 518 [(0, 519), (3, 526)] _ (by kernel_rfl) (by simp) ?_
   simp only [wy, wq, simprocAttr]
   exact ⟨t519.h, ⟨hI, t526.h⟩⟩
  ·refine hW.all 15 [(4, 31), (9, 527)] _ (by kernel_rfl) (by simp) ?_
   simp only [wy, wq, simprocAttr]
   exact ⟨t31.h, t527.h⟩
  ·refine hW.all 30 [(0, 31), (9, 542)] _ (by kernel_rfl) (by simp) ?_
   simp only [wy, wq, simprocAttr]
   exact ⟨t31.h, t542.h⟩
  ·refine hW.all 519 [(3, 527)] _ (by kernel_rfl) (by simp) ?_
   simp only [wy, wq, simprocAttr]
   exact ⟨hI, t527.h⟩
  ·refine hW.all 526 [(0, 527), (4, 542)] _ (by kernel_rfl) (by simp) ?_
   simp only [wy, wq, simprocAttr]
   exact ⟨t527.h, t542.h⟩
  ·refine hW.all 31 [(5, 63), (9, 543)] _ (by kernel_rfl) (by simp) ?_
   simp only [wy, wq, simprocAttr]
   refine ⟨?_, ?_⟩
   ·refine vcall_of hdo ?_
    simp only [wq, simprocAttr]
    exact t63.h
   ·exact t543.h
  ·refine hW.all 527 [(4, 543)] _ (by kernel_rfl) (by simp) ?_
   simp only [wy, wq, simprocAttr]
   exact t543.h
  ·refine hW.all 542 [(0, 543)] _ (by kernel_rfl) (by simp) ?_
   simp only [wy, wq, simprocAttr]
   exact t543.h
  ·refine hW.all 63 [(6, 127), (9, 575)] _ (by kernel_rfl) (by simp) ?_
   simp only [wy, wq, simprocAttr]
   exact ⟨t127.h, t575.h⟩
  ·refine hW.all 543 [(5, 575)] _ (by kernel_rfl) (by simp) ?_
   simp only [wy, wq, simprocAttr]
   skip
   refine vcall_of hdo ?_
   simp only [wq, simprocAttr]
   exact t575.h
  ·refine hW.all 127 [(7, 255), (8, 383), (9, 639)] _ (by kernel_rfl) (by simp) ?_
   simp only [wy, wq, simprocAttr]
   exact ⟨t255.h, t383.h, t639.h⟩
  ·refine hW.all 575 [(6, 639)] _ (by kernel_rfl) (by simp) ?_
   simp only [wy, wq, simprocAttr]
   exact t639.h
  ·refine hW.all 255 [(8, 511), (9, 767)] _ (by kernel_rfl) (by simp) ?_
   simp only [wy, wq, simprocAttr]
   exact ⟨t511.h, t767.h⟩
  ·refine hW.all 383 [(7, 511), (9, 895)] _ (by kernel_rfl) (by simp) ?_
   simp only [wy, wq, simprocAttr]
   exact ⟨t511.h, t895.h⟩
  ·refine hW.all 639 [(7, 767), (8, 895)] _ (by kernel_rfl) (by simp) ?_
   simp only [wy, wq, simprocAttr]
   exact ⟨t767.h, t895.h⟩
  ·refine hW.all 511 [(9, 1023)] _ (by kernel_rfl) (by simp) ?_
   simp only [wy, wq, simprocAttr]
   exact t1023.h
  ·refine hW.all 767 [(8, 1023), (10, 1791)] _ (by kernel_rfl) (by simp) ?_
   simp only [wy, wq, simprocAttr]
   exact ⟨t1023.h, t1791.h⟩
  ·refine hW.all 895 [(7, 1023)] _ (by kernel_rfl) (by simp) ?_
   simp only [wy, wq, simprocAttr]
   exact t1023.h
  ·refine hW.all 1791 [(8, 2047)] _ (by kernel_rfl) (by simp) ?_
   simp only [wy, wq, simprocAttr]
   exact t2047.h
  ·refine hW.all 1023 [(10, 2047)] _ (by kernel_rfl) (by simp) ?_
   simp only [wy, wq, simprocAttr]
   exact t2047.h
  ·refine hW.all 2047 [(11, 4095)] _ (by kernel_rfl) (by simp) ?_
   simp only [wy, wq, simprocAttr]
   exact t4095.h
  ·refine hW.done 4095 _ (by kernel_rfl) ?_
   exact tK.h
  refine hK _ ?_
  clear hW W hK K
  refine vthen_n ?_
  repeat refine VW.seq ?_
  refine VW.regl hT fun K hK => ?_
  simp only [wq, simprocAttr]
  refine hK _ ?_
  clear hK K
  try refine vthen_n ?_
  repeat refine VW.seq ?_
  refine VW.regl hT fun K hK => ?_
  simp only [wq, simprocAttr]
  refine ⟨by simp only [limOk]; exact decide_eq_true (by omega), ?_⟩
  refine hK _ ?_
  clear hK K
  try refine vthen_n ?_
  show vthen _ _ _ .normal _
  refine vthen_n ?_
  repeat refine VW.seq ?_
  refine VW.regl hT fun K hK => ?_
  simp only [wq, simprocAttr]
  refine hK _ ?_
  clear hK K
  try refine vthen_n ?_
  refine ⟨i + 1, hlt, ?_, by show ks.length - (i + 1) < ks.length - i; omega⟩
  simp only [wn, wq, simprocAttr]
  rw [hrs, wrap64 (by omega) (by omega), show (i : Int) + 1 = ((i + 1 : Nat) : Int) by omega]
 ·have hge : i = ks.length := by
   have hc : ¬ (i : Int) < (ks.length : Int) := of_decide_eq_false hc
   omega
  subst hge
  rw [List.take_length, hr]
  refine VW.exit ?_
  show vthen _ _ _ .normal _
  refine vthen_n ?_
  repeat refine VW.seq ?_
  refine VW.regl hT fun K hK => ?_
  simp only [wq, simprocAttr]
  refine hK _ ?_
  clear hK K
  try refine vthen_n ?_
  exact VW.ret ⟨.inl rfl, _, rfl, rfl⟩
end Go.Proofs.YtmechjnfeidnkaaGreat.V.W
end
section
namespace Go.Proofs.YtmechjnfeidnkaaGreat.V.W
open Go Go.RowKit
abbrev sAL : Sh := .sl 77 sAct
set_option maxRecDepth 20000 in
theorem toAct_vc (x : Ac) : VC Tryz.prog 45 [.v true sAct x] (· = .v true sAct x) := by
 refine VC.of_body hT Tryz.func45 rfl (by kernel_rfl) [(.cell 2 79, true, sAct)] (by kernel_rfl) ?_
 show VW _ _ ([.v true sAct x, D, D, D, D, D, D, D, D, D, D, D, D, D, D, D, D]) _
 repeat refine VW.seq ?_
 refine VW.regl hT fun K hK => ?_
 simp only [wq, simprocAttr]
 refine hK _ ?_
 clear hK K
 try refine vthen_n ?_
 repeat refine VW.seq ?_
 refine VW.regl hT fun K hK => ?_
 simp only [wq, simprocAttr]
 refine hK _ ?_
 clear hK K
 try refine vthen_n ?_
 repeat refine VW.seq ?_
 refine VW.regl hT fun K hK => ?_
 simp only [wq, simprocAttr]
 refine hK _ ?_
 clear hK K
 try refine vthen_n ?_
 repeat refine VW.seq ?_
 refine VW.regl hT fun K hK => ?_
 simp only [wq, simprocAttr]
 refine hK _ ?_
 clear hK K
 try refine vthen_n ?_
 repeat refine VW.seq ?_
 refine VW.regl hT fun K hK => ?_
 simp only [wq, simprocAttr]
 refine hK _ ?_
 clear hK K
 try refine vthen_n ?_
 repeat refine VW.seq ?_
 refine VW.regl hT fun K hK => ?_
 simp only [wq, simprocAttr]
 refine hK _ ?_
 clear hK K
 try refine vthen_n ?_
 repeat refine VW.seq ?_
 refine VW.regl hT fun K hK => ?_
 simp only [wq, simprocAttr]
 refine hK _ ?_
 clear hK K
 try refine vthen_n ?_
 exact VW.ret ⟨.inl rfl, _, rfl, rfl⟩
set_option maxRecDepth 20000 in
theorem eqAct_vc (x y : Ac) : VC Tryz.prog 98 [.v true sAct x, .v true sAct y] (· = .v false .bool (decide (x = y))) := by
 refine VC.of_body hT Tryz.func98 rfl (by kernel_rfl) [(.tmp 4, false, .bool)] (by kernel_rfl) ?_
 show VW _ _ ([.v true sAct x, .v true sAct y, D, D, D, D, D, D, D, D, D, D, D, D, D, D, D, D, D, D, D, D, D, D, D]) _
 obtain ⟨x0, x1, x2, x3⟩ := x
 obtain ⟨y0, y1, y2, y3⟩ := y
 repeat refine VW.seq ?_
 refine VW.regl hT fun K hK => ?_
 simp only [wq, simprocAttr]
 refine hK _ ?_
 clear hK K
 try refine vthen_n ?_
 repeat refine VW.seq ?_
 refine VW.regl hT fun K hK => ?_
 simp only [wq, simprocAttr]
 refine hK _ ?_
 clear hK K
 try refine vthen_n ?_
 repeat refine VW.seq ?_
 refine VW.cond rfl (fun hc => ?_) (fun hc => ?_)
 ·repeat refine VW.seq ?_
  refine VW.regl hT fun K hK => ?_
  simp only [wq, simprocAttr]
  refine hK _ ?_
  clear hK K
  try refine vthen_n ?_
  refine VW.ret ⟨.inl rfl, _, rfl, ?_⟩
  simp [eqv] at hc; simp [hc]
 refine VW.skip (vthen_n ?_)
 repeat refine VW.seq ?_
 refine VW.regl hT fun K hK => ?_
 simp only [wq, simprocAttr]
 refine hK _ ?_
 clear hK K
 try refine vthen_n ?_
 repeat refine VW.seq ?_
 refine VW.cond rfl (fun hc => ?_) (fun hc => ?_)
 ·repeat refine VW.seq ?_
  refine VW.regl hT fun K hK => ?_
  simp only [wq, simprocAttr]
  refine hK _ ?_
  clear hK K
  try refine vthen_n ?_
  refine VW.ret ⟨.inl rfl, _, rfl, ?_⟩
  simp [eqv] at hc; simp [hc]
 refine VW.skip (vthen_n ?_)
 repeat refine VW.seq ?_
 refine VW.regl hT fun K hK => ?_
 simp only [wq, simprocAttr]
 refine hK _ ?_
 clear hK K
 try refine vthen_n ?_
 repeat refine VW.seq ?_
 refine VW.cond rfl (fun hc => ?_) (fun hc => ?_)
 ·repeat refine VW.seq ?_
  refine VW.regl hT fun K hK => ?_
  simp only [wq, simprocAttr]
  refine hK _ ?_
  clear hK K
  try refine vthen_n ?_
  refine VW.ret ⟨.inl rfl, _, rfl, ?_⟩
  simp [eqv] at hc; simp [hc]
 refine VW.skip (vthen_n ?_)
 repeat refine VW.seq ?_
 refine VW.regl hT fun K hK => ?_
 simp only [wq, simprocAttr]
 refine hK _ ?_
 clear hK K
 try refine vthen_n ?_
 repeat refine VW.seq ?_
 refine VW.cond rfl (fun hc => ?_) (fun hc => ?_)
 ·repeat refine VW.seq ?_
  refine VW.regl hT fun K hK => ?_
  simp only [wq, simprocAttr]
  refine hK _ ?_
  clear hK K
  try refine vthen_n ?_
  refine VW.ret ⟨.inl rfl, _, rfl, ?_⟩
  simp [eqv] at hc; simp [hc]
 refine VW.skip (vthen_n ?_)
 repeat refine VW.seq ?_
 refine VW.regl hT fun K hK => ?_
 simp only [wq, simprocAttr]
 refine hK _ ?_
 clear hK K
 try refine vthen_n ?_
 refine VW.ret ⟨.inl rfl, _, rfl, ?_⟩
 simp_all [eqv]
theorem szActS_vc (xs : List (Ac)) (n : Int) (hl : xs.length * 1 ≤ 140737488351232) (h0 : 0 ≤ n) (h1 : n ≤ 1048576) : VC Tryz.prog 40 [.v false (.sl 77 sAct) xs, .v false (.int .i64) n] (Left n · xs.length) := by
 refine VC.of_body hT Tryz.func40 rfl (by kernel_rfl) [(.tmp 4, false, .int .i64)] (by kernel_rfl) ?_
 show VW _ _ ([.v false (.sl 77 sAct) xs, .v false (.int .i64) n, D, D, D, D, D, D, D, D, D, D]) _
 repeat refine VW.seq ?_
 refine VW.regl hT fun K hK => ?_
 simp only [wq, simprocAttr]
 refine hK _ ?_
 clear hK K
 try refine vthen_n ?_
 repeat refine VW.seq ?_
 refine VW.regl hT fun K hK => ?_
 simp only [wq, simprocAttr]
 refine hK _ ?_
 clear hK K
 try refine vthen_n ?_
 rw [wrap64 (by omega) (by omega)]
 repeat refine VW.seq ?_
 refine VW.regl hT fun K hK => ?_
 simp only [wq, simprocAttr]
 refine hK _ ?_
 clear hK K
 try refine vthen_n ?_
 repeat refine VW.seq ?_
 refine VW.cond rfl (fun hc => ?_) (fun hc => ?_)
 ·repeat refine VW.seq ?_
  refine VW.regl hT fun K hK => ?_
  simp only [wq, simprocAttr]
  refine hK _ ?_
  clear hK K
  try refine vthen_n ?_
  exact VW.ret ⟨.inl rfl, _, rfl, (-1 : Int), rfl, by omega, fun h => by omega⟩
 ·refine VW.skip (vthen_n ?_)
  repeat refine VW.seq ?_
  refine VW.regl hT fun K hK => ?_
  simp only [wq, simprocAttr]
  refine hK _ ?_
  clear hK K
  try refine vthen_n ?_
  have hc : ¬ ((n : Int) - xs.length < 0) := of_decide_eq_false hc
  exact VW.ret ⟨.inl rfl, _, rfl, (n - xs.length : Int), rfl, by omega, fun h => by omega⟩
set_option maxRecDepth 20000 in
theorem toActS_vc (xs : List (Ac)) (hl : xs.length * 32 ≤ 140737488351232) : VC Tryz.prog 42 [.v false (.sl 77 sAct) xs] (· = .root (.val false) (.sl 79 sAct) .own xs) := by
 refine VC.of_body hT Tryz.func42 rfl (by kernel_rfl) [(.tmp 2, false, .sl 79 sAct)] (by kernel_rfl) ?_
 show VW _ _ ([.v false (.sl 77 sAct) xs, D, D, D, D, D, D, D, D, D, D, D, D, D, D, D, D, D, D, D, D, D, D]) _
 repeat refine VW.seq ?_
 refine VW.regl hT fun K hK => ?_
 simp only [wq, simprocAttr]
 refine hK _ ?_
 clear hK K
 try refine vthen_n ?_
 repeat refine VW.seq ?_
 refine VW.regl hT fun K hK => ?_
 simp only [wq, simprocAttr]
 refine ⟨by simp [limOk]; omega, ?_⟩
 refine hK _ ?_
 clear hK K
 try refine vthen_n ?_
 repeat refine VW.seq ?_
 refine VW.regl hT fun K hK => ?_
 simp only [wq, simprocAttr]
 refine hK _ ?_
 clear hK K
 try refine vthen_n ?_
 repeat refine VW.seq ?_
 refine VW.block ?_
 refine VW.loop (α := Nat) [(0, none), (3, none), (4, none)] (fun i => [.v false (.sl 77 sAct) xs, D, D, .root (.val false) (.sl 79 sAct) .own (fillTo xs zA i), .v false (.int .i64) (i : Int), D, D, D, D, D, D, D, D, D, D, D, D, D, D, D, D, D, D]) (fun i => i ≤ xs.length) (fun i => xs.length - i) ⟨0, by omega, ?_⟩ fun i hi => ?_
 ·simp only [wn, wq, simprocAttr]
  rw [fillTo_zero]; try rfl
 repeat refine VW.seq ?_
 refine VW.regl hT fun K hK => ?_
 simp only [wq, simprocAttr]
 refine hK _ ?_
 clear hK K
 try refine vthen_n ?_
 repeat refine VW.seq ?_
 refine VW.cond rfl (fun hc => ?_) (fun hc => ?_)
 ·have hlt : i < xs.length := by simpa using hc
  refine VW.skip (vthen_n ?_)
  repeat refine VW.seq ?_
  refine VW.block ?_
  repeat refine VW.seq ?_
  refine VW.regl hT fun K hK => ?_
  simp only [wq, simprocAttr]
  refine ⟨by simp; omega, vcall_of (toAct_vc _) ?_⟩
  simp only [wq, simprocAttr]
  refine ⟨by simp [fillTo_len hi]; omega, ?_⟩
  refine hK _ ?_
  clear hK K
  try refine vthen_n ?_
  repeat refine VW.seq ?_
  refine VW.regl hT fun K hK => ?_
  simp only [wq, simprocAttr]
  refine hK _ ?_
  clear hK K
  try refine vthen_n ?_
  refine ⟨i + 1, hlt, ?_, by show xs.length - (i + 1) < xs.length - i; omega⟩
  simp only [wn, wq, simprocAttr]
  rw [fillTo_set hlt, wrap64 (by omega) (by omega)]
  rfl
 ·have hc : xs.length ≤ i := by simpa using hc
  refine VW.exit ?_
  show vthen _ _ _ .normal _
  refine vthen_n ?_
  repeat refine VW.seq ?_
  refine VW.regl hT fun K hK => ?_
  simp only [wq, simprocAttr]
  refine hK _ ?_
  clear hK K
  try refine vthen_n ?_
  refine VW.ret ⟨.inl rfl, _, rfl, ?_⟩
  rw [fillTo_all xs _ hc]
set_option maxRecDepth 20000 in
theorem eqActS_vc (xs ys : List (Ac)) (hl : xs.length * 32 ≤ 140737488351232) : VC Tryz.prog 43 [.v false (.sl 79 sAct) xs, .v false (.sl 79 sAct) ys] (· = .v false .bool (decide (xs = ys))) := by
 refine VC.of_body hT Tryz.func43 rfl (by kernel_rfl) [(.tmp 4, false, .bool)] (by kernel_rfl) ?_
 show VW _ _ ([.v false (.sl 79 sAct) xs, .v false (.sl 79 sAct) ys, D, D, D, D, D, D, D, D, D, D, D, D, D, D, D, D, D, D, D, D, D, D, D, D, D]) _
 repeat refine VW.seq ?_
 refine VW.regl hT fun K hK => ?_
 simp only [wq, simprocAttr]
 refine hK _ ?_
 clear hK K
 try refine vthen_n ?_
 repeat refine VW.seq ?_
 refine VW.regl hT fun K hK => ?_
 simp only [wq, simprocAttr]
 refine hK _ ?_
 clear hK K
 try refine vthen_n ?_
 repeat refine VW.seq ?_
 refine VW.cond rfl (fun hc => ?_) (fun hc => ?_)
 ·repeat refine VW.seq ?_
  refine VW.regl hT fun K hK => ?_
  simp only [wq, simprocAttr]
  refine hK _ ?_
  clear hK K
  try refine vthen_n ?_
  refine VW.ret ⟨.inl rfl, _, rfl, ?_⟩
  have : xs ≠ ys := fun e => by subst e; simp at hc
  simp [this]
 have hlen : xs.length = ys.length := by simp at hc; omega
 refine VW.skip (vthen_n ?_)
 repeat refine VW.seq ?_
 refine VW.regl hT fun K hK => ?_
 simp only [wq, simprocAttr]
 refine hK _ ?_
 clear hK K
 try refine vthen_n ?_
 repeat refine VW.seq ?_
 refine VW.block ?_
 refine VW.loop (α := Nat) [(0, none), (1, none), (5, none)] (fun i => [.v false (.sl 79 sAct) xs, .v false (.sl 79 sAct) ys, D, D, D, .v false (.int .i64) (i : Int), D, D, D, D, D, D, D, D, D, D, D, D, D, D, D, D, D, D, D, D, D]) (fun i => i ≤ xs.length ∧ ∀ k, k < i → xs.getD k zA = ys.getD k zA) (fun i => xs.length - i) ⟨0, ⟨by omega, fun k hk => by omega⟩, ?_⟩ fun i ⟨hi, hk⟩ => ?_
 ·simp only [wn, wq, simprocAttr]
  try rfl
 repeat refine VW.seq ?_
 refine VW.regl hT fun K hK => ?_
 simp only [wq, simprocAttr]
 refine hK _ ?_
 clear hK K
 try refine vthen_n ?_
 repeat refine VW.seq ?_
 refine VW.cond rfl (fun hc => ?_) (fun hc => ?_)
 ·have hlt : i < xs.length := by simpa using hc
  refine VW.skip (vthen_n ?_)
  repeat refine VW.seq ?_
  refine VW.block ?_
  repeat refine VW.seq ?_
  refine VW.drawl hT hm (by kernel_rfl) fun K hK => ?_
  simp only [wq, simprocAttr]
  refine ⟨by simp; omega, by simp; omega, vcallD_of (eqAct_vc _ _) ?_⟩
  simp only [wq, simprocAttr]
  refine hK _ ?_
  clear hK K
  try refine vthen_n ?_
  repeat refine VW.seq ?_
  refine VW.cond rfl (fun hc => ?_) (fun hc => ?_)
  ·repeat refine VW.seq ?_
   refine VW.regl hT fun K hK => ?_
   simp only [wq, simprocAttr]
   refine hK _ ?_
   clear hK K
   try refine vthen_n ?_
   refine VW.ret ⟨.inl rfl, _, rfl, ?_⟩
   have : xs ≠ ys := fun e => by subst e; simp [eqv] at hc
   simp [this]
  ·have hxy : xs.getD i zA = ys.getD i zA := by
    have hc2 := hc
    rw [Bool.not_eq_false'] at hc2
    exact of_decide_eq_true hc2
   refine VW.skip ?_
   show vthen _ _ _ .normal _
   refine vthen_n ?_
   repeat refine VW.seq ?_
   refine VW.regl hT fun K hK => ?_
   simp only [wq, simprocAttr]
   refine hK _ ?_
   clear hK K
   try refine vthen_n ?_
   refine ⟨i + 1, ⟨hlt, fun k h => ?_⟩, ?_, by show xs.length - (i + 1) < xs.length - i; omega⟩
   ·rcases Nat.lt_or_ge k i with h1 | h1
    ·exact hk k h1
    ·obtain rfl : k = i := by omega
     exact hxy
   ·simp only [wn, wq, simprocAttr]
    rw [wrap64 (by omega) (by omega)]
    rfl
 ·have hc : xs.length ≤ i := by simpa using hc
  refine VW.exit ?_
  show vthen _ _ _ .normal _
  refine vthen_n ?_
  repeat refine VW.seq ?_
  refine VW.regl hT fun K hK => ?_
  simp only [wq, simprocAttr]
  refine hK _ ?_
  clear hK K
  try refine vthen_n ?_
  refine VW.ret ⟨.inl rfl, _, rfl, ?_⟩
  rw [row_eq zA hlen fun k h => hk k (by omega)]
  simp
end Go.Proofs.YtmechjnfeidnkaaGreat.V.W
end
section
namespace Go.Proofs.YtmechjnfeidnkaaGreat.V.W
open Go Go.RowKit
set_option maxRecDepth 20000 in
theorem libIntEq_vc (xs ys : List (Int)) (hl : xs.length * 8 ≤ 140737488351232) : VC Tryz.prog 61 [.v false (.sl 3 (.int .i64)) xs, .v false (.sl 3 (.int .i64)) ys] (· = .v false .bool (decide (xs = ys))) := by
 refine VC.of_body hT Tryz.func61 rfl (by kernel_rfl) [(.tmp 4, false, .bool)] (by kernel_rfl) ?_
 show VW _ _ ([.v false (.sl 3 (.int .i64)) xs, .v false (.sl 3 (.int .i64)) ys, D, D, D, D, D, D, D, D, D, D, D, D, D, D, D, D, D, D, D, D, D, D, D, D]) _
 repeat refine VW.seq ?_
 refine VW.regl hT fun K hK => ?_
 simp only [wq, simprocAttr]
 refine hK _ ?_
 clear hK K
 try refine vthen_n ?_
 repeat refine VW.seq ?_
 refine VW.regl hT fun K hK => ?_
 simp only [wq, simprocAttr]
 refine hK _ ?_
 clear hK K
 try refine vthen_n ?_
 repeat refine VW.seq ?_
 refine VW.cond rfl (fun hc => ?_) (fun hc => ?_)
 ·repeat refine VW.seq ?_
  refine VW.regl hT fun K hK => ?_
  simp only [wq, simprocAttr]
  refine hK _ ?_
  clear hK K
  try refine vthen_n ?_
  refine VW.ret ⟨.inl rfl, _, rfl, ?_⟩
  have : xs ≠ ys := fun e => by subst e; simp at hc
  simp [this]
 have hlen : xs.length = ys.length := by simp at hc; omega
 refine VW.skip (vthen_n ?_)
 repeat refine VW.seq ?_
 refine VW.regl hT fun K hK => ?_
 simp only [wq, simprocAttr]
 refine hK _ ?_
 clear hK K
 try refine vthen_n ?_
 repeat refine VW.seq ?_
 refine VW.block ?_
 refine VW.loop (α := Nat) [(0, none), (1, none), (12, none), (13, none)] (fun i => [.v false (.sl 3 (.int .i64)) xs, .v false (.sl 3 (.int .i64)) ys, D, D, D, D, D, D, D, D, D, D, .v false (.int .i64) (xs.length : Int), .v false (.int .i64) (i : Int), D, D, D, D, D, D, D, D, D, D, D, D]) (fun i => i ≤ xs.length ∧ ∀ k, k < i → xs.getD k 0 = ys.getD k 0) (fun i => xs.length - i) ⟨0, ⟨by omega, fun k hk => by omega⟩, ?_⟩ fun i ⟨hi, hk⟩ => ?_
 ·simp only [wn, wq, simprocAttr]
  try rfl
 repeat refine VW.seq ?_
 refine VW.regl hT fun K hK => ?_
 simp only [wq, simprocAttr]
 refine hK _ ?_
 clear hK K
 try refine vthen_n ?_
 repeat refine VW.seq ?_
 refine VW.cond rfl (fun hc => ?_) (fun hc => ?_)
 ·have hlt : i < xs.length := by simpa using hc
  refine VW.skip (vthen_n ?_)
  repeat refine VW.seq ?_
  refine VW.block ?_
  repeat refine VW.seq ?_
  refine VW.regl hT fun K hK => ?_
  simp only [wq, simprocAttr]
  refine hK _ ?_
  clear hK K
  try refine vthen_n ?_
  repeat refine VW.seq ?_
  refine VW.drawl hT hm (by kernel_rfl) fun K hK => ?_
  simp only [wq, simprocAttr]
  refine ⟨by simp; omega, by simp; omega, ?_⟩
  refine hK _ ?_
  clear hK K
  try refine vthen_n ?_
  repeat refine VW.seq ?_
  refine VW.cond rfl (fun hc => ?_) (fun hc => ?_)
  ·repeat refine VW.seq ?_
   refine VW.regl hT fun K hK => ?_
   simp only [wq, simprocAttr]
   refine hK _ ?_
   clear hK K
   try refine vthen_n ?_
   refine VW.ret ⟨.inl rfl, _, rfl, ?_⟩
   have : xs ≠ ys := fun e => by subst e; simp [eqv] at hc
   simp [this]
  ·have hxy : xs.getD i 0 = ys.getD i 0 := by
    have hc2 := hc
    rw [Bool.not_eq_false'] at hc2
    exact eq_of_beq hc2
   refine VW.skip ?_
   show vthen _ _ _ .normal _
   refine vthen_n ?_
   repeat refine VW.seq ?_
   refine VW.regl hT fun K hK => ?_
   simp only [wq, simprocAttr]
   refine hK _ ?_
   clear hK K
   try refine vthen_n ?_
   refine ⟨i + 1, ⟨hlt, fun k h => ?_⟩, ?_, by show xs.length - (i + 1) < xs.length - i; omega⟩
   ·rcases Nat.lt_or_ge k i with h1 | h1
    ·exact hk k h1
    ·obtain rfl : k = i := by omega
     exact hxy
   ·simp only [wn, wq, simprocAttr]
    rw [wrap64 (by omega) (by omega)]
    rfl
 ·have hc : xs.length ≤ i := by simpa using hc
  refine VW.exit ?_
  show vthen _ _ _ .normal _
  refine vthen_n ?_
  repeat refine VW.seq ?_
  refine VW.regl hT fun K hK => ?_
  simp only [wq, simprocAttr]
  refine hK _ ?_
  clear hK K
  try refine vthen_n ?_
  refine VW.ret ⟨.inl rfl, _, rfl, ?_⟩
  rw [row_eq 0 hlen fun k h => hk k (by omega)]
  simp
set_option maxRecDepth 20000 in
theorem l04Ints_vc (xs ys : List (Int)) (hl : xs.length * 8 ≤ 140737488351232) : VC Tryz.prog 97 [.v false (.sl 3 (.int .i64)) xs, .v false (.sl 3 (.int .i64)) ys] (· = .v false .bool (decide (xs = ys))) := by
 refine VC.of_body hT Tryz.func97 rfl (by kernel_rfl) [(.tmp 4, false, .bool)] (by kernel_rfl) ?_
 show VW _ _ ([.v false (.sl 3 (.int .i64)) xs, .v false (.sl 3 (.int .i64)) ys, D, D, D, D, D, D, D, D, D, D, D, D, D, D, D, D, D, D, D, D, D, D, D, D]) _
 repeat refine VW.seq ?_
 refine VW.regl hT fun K hK => ?_
 simp only [wq, simprocAttr]
 refine hK _ ?_
 clear hK K
 try refine vthen_n ?_
 repeat refine VW.seq ?_
 refine VW.regl hT fun K hK => ?_
 simp only [wq, simprocAttr]
 refine hK _ ?_
 clear hK K
 try refine vthen_n ?_
 repeat refine VW.seq ?_
 refine VW.cond rfl (fun hc => ?_) (fun hc => ?_)
 ·repeat refine VW.seq ?_
  refine VW.regl hT fun K hK => ?_
  simp only [wq, simprocAttr]
  refine hK _ ?_
  clear hK K
  try refine vthen_n ?_
  refine VW.ret ⟨.inl rfl, _, rfl, ?_⟩
  have : xs ≠ ys := fun e => by subst e; simp at hc
  simp [this]
 have hlen : xs.length = ys.length := by simp at hc; omega
 refine VW.skip (vthen_n ?_)
 repeat refine VW.seq ?_
 refine VW.regl hT fun K hK => ?_
 simp only [wq, simprocAttr]
 refine hK _ ?_
 clear hK K
 try refine vthen_n ?_
 repeat refine VW.seq ?_
 refine VW.block ?_
 refine VW.loop (α := Nat) [(0, none), (1, none), (5, none)] (fun i => [.v false (.sl 3 (.int .i64)) xs, .v false (.sl 3 (.int .i64)) ys, D, D, D, .v false (.int .i64) (i : Int), D, D, D, D, D, D, D, D, D, D, D, D, D, D, D, D, D, D, D, D]) (fun i => i ≤ xs.length ∧ ∀ k, k < i → xs.getD k 0 = ys.getD k 0) (fun i => xs.length - i) ⟨0, ⟨by omega, fun k hk => by omega⟩, ?_⟩ fun i ⟨hi, hk⟩ => ?_
 ·simp only [wn, wq, simprocAttr]
  try rfl
 repeat refine VW.seq ?_
 refine VW.regl hT fun K hK => ?_
 simp only [wq, simprocAttr]
 refine hK _ ?_
 clear hK K
 try refine vthen_n ?_
 repeat refine VW.seq ?_
 refine VW.cond rfl (fun hc => ?_) (fun hc => ?_)
 ·have hlt : i < xs.length := by simpa using hc
  refine VW.skip (vthen_n ?_)
  repeat refine VW.seq ?_
  refine VW.block ?_
  repeat refine VW.seq ?_
  refine VW.drawl hT hm (by kernel_rfl) fun K hK => ?_
  simp only [wq, simprocAttr]
  refine ⟨by simp; omega, by simp; omega, ?_⟩
  refine hK _ ?_
  clear hK K
  try refine vthen_n ?_
  repeat refine VW.seq ?_
  refine VW.cond rfl (fun hc => ?_) (fun hc => ?_)
  ·repeat refine VW.seq ?_
   refine VW.regl hT fun K hK => ?_
   simp only [wq, simprocAttr]
   refine hK _ ?_
   clear hK K
   try refine vthen_n ?_
   refine VW.ret ⟨.inl rfl, _, rfl, ?_⟩
   have : xs ≠ ys := fun e => by subst e; simp [eqv] at hc
   simp [this]
  ·have hxy : xs.getD i 0 = ys.getD i 0 := by
    have hc2 := hc
    rw [Bool.not_eq_false'] at hc2
    exact eq_of_beq hc2
   refine VW.skip ?_
   show vthen _ _ _ .normal _
   refine vthen_n ?_
   repeat refine VW.seq ?_
   refine VW.regl hT fun K hK => ?_
   simp only [wq, simprocAttr]
   refine hK _ ?_
   clear hK K
   try refine vthen_n ?_
   refine ⟨i + 1, ⟨hlt, fun k h => ?_⟩, ?_, by show xs.length - (i + 1) < xs.length - i; omega⟩
   ·rcases Nat.lt_or_ge k i with h1 | h1
    ·exact hk k h1
    ·obtain rfl : k = i := by omega
     exact hxy
   ·simp only [wn, wq, simprocAttr]
    rw [wrap64 (by omega) (by omega)]
    rfl
 ·have hc : xs.length ≤ i := by simpa using hc
  refine VW.exit ?_
  show vthen _ _ _ .normal _
  refine vthen_n ?_
  repeat refine VW.seq ?_
  refine VW.regl hT fun K hK => ?_
  simp only [wq, simprocAttr]
  refine hK _ ?_
  clear hK K
  try refine vthen_n ?_
  refine VW.ret ⟨.inl rfl, _, rfl, ?_⟩
  rw [row_eq 0 hlen fun k h => hk k (by omega)]
  simp
def isReplay (x : Fab) (ks : List Ac) (ns : List Int) : Bool := fabOk x && (decide (ks.length ≤ 40) && decide ((runActs x ks).2 = ns))
set_option maxRecDepth 20000 in
set_option maxHeartbeats 1000000 in
theorem isReplay_vc (x : Fab) (ks : List Ac) (ns : List Int) (hx : FabL x) (hgl : x.2.2.2.2.length ≤ 2000000) (hal : ks.length ≤ 2000000) (hnl : ns.length * 8 ≤ 140737488351232) : VC Tryz.prog 27 [.v true sFi x, .v false sAS ks, .v false sI ns] (· = .v false .bool (isReplay x ks ns)) := by
 refine VC.of_body hT Tryz.func27 rfl (by kernel_rfl) [(.tmp 6, false, .bool)] (by kernel_rfl) ?_
 have hra := runActs_vc x ks hx hgl hal
 have hfo := fabricOk_vc x hx
 generalize hr : isReplay x ks ns = r
 rw [isReplay] at hr
 have hrl := (runActs_sh x ks).2
 generalize runActs x ks = p at *
 obtain ⟨G, os⟩ := p
 have hrl : os.length ≤ 40 := hrl
 show VW _ _ ([.v true sFi x, .v false sAS ks, .v false sI ns, D, D, D, D, D, D, D, D, D, D, D, D, D, D, D, D, D, D, D, D, D, D, D, D]) _
 repeat refine VW.seq ?_
 refine VW.regl hT fun K hK => ?_
 simp only [wq, simprocAttr]
 refine hK _ ?_
 clear hK K
 try refine vthen_n ?_
 repeat refine VW.seq ?_
 refine VW.regl hT fun K hK => ?_
 simp only [wq, simprocAttr]
 refine vcall_of (hra) ?_
 simp only [wq, simprocAttr]
 refine hK _ ?_
 clear hK K
 try refine vthen_n ?_
 repeat refine VW.seq ?_
 refine VW.regl hT fun K hK => ?_
 simp only [wq, simprocAttr]
 refine vcall_of hfo ?_
 simp only [wq, simprocAttr]
 refine vbr (fun h => ?_) (fun h => ?_) <;> simp only [wq, simprocAttr]
 case refine_2 =>
  have h : fabOk x = false := h
  refine hK _ ?_
  clear hK K
  try refine vthen_n ?_
  refine VW.ret ⟨.inl rfl, _, rfl, ?_⟩
  rw [← hr, h, Bool.false_and]
 have hf : fabOk x = true := h
 rw [hf, Bool.true_and] at hr
 refine vbr (fun h => ?_) (fun h => ?_) <;> simp only [wq, simprocAttr]
 case refine_2 =>
  have h : decide ((ks.length : Int) ≤ 40) = false := h
  have h2 : ¬ ks.length ≤ 40 := by have := of_decide_eq_false h; omega
  refine hK _ ?_
  clear hK K
  try refine vthen_n ?_
  refine VW.ret ⟨.inl rfl, _, rfl, ?_⟩
  rw [← hr, decide_eq_false h2, Bool.false_and]
 have h : decide ((ks.length : Int) ≤ 40) = true := h
 have h2 : ks.length ≤ 40 := by have := of_decide_eq_true h; omega
 rw [decide_eq_true h2, Bool.true_and] at hr
 refine vcall_of (libIntEq_vc os ns (by omega)) ?_
 simp only [wq, simprocAttr]
 refine hK _ ?_
 clear hK K
 try refine vthen_n ?_
 refine VW.ret ⟨.inl rfl, _, rfl, ?_⟩
 rw [← hr]
set_option maxRecDepth 20000 in
set_option maxHeartbeats 1000000 in
theorem specIsReplay_vc (x : Fab) (ks : List Ac) (ns : List Int) (hx : FabL x) (hgl : x.2.2.2.2.length ≤ 2000000) (hal : ks.length ≤ 2000000) (hnl : ns.length * 8 ≤ 140737488351232) : VC Tryz.prog 41 [.v true sFi x, .v false sAS ks, .v false sI ns] (· = .v false .bool (isReplay x ks ns)) := by
 refine VC.of_body hT Tryz.func41 rfl (by kernel_rfl) [(.tmp 6, false, .bool)] (by kernel_rfl) ?_
 have hra := specRunActs_vc x ks hx hgl hal
 have hfo := specFabricOk_vc x hx
 generalize hr : isReplay x ks ns = r
 rw [isReplay] at hr
 have hrl := (runActs_sh x ks).2
 generalize runActs x ks = p at *
 obtain ⟨G, os⟩ := p
 have hrl : os.length ≤ 40 := hrl
 show VW _ _ ([.v true sFi x, .v false sAS ks, .v false sI ns, D, D, D, D, D, D, D, D, D, D, D, D, D, D, D, D, D, D, D, D, D, D, D]) _
 repeat refine VW.seq ?_
 refine VW.regl hT fun K hK => ?_
 simp only [wq, simprocAttr]
 refine hK _ ?_
 clear hK K
 try refine vthen_n ?_
 repeat refine VW.seq ?_
 refine VW.regl hT fun K hK => ?_
 simp only [wq, simprocAttr]
 refine vcall_of hfo ?_
 simp only [wq, simprocAttr]
 refine vbr (fun h => ?_) (fun h => ?_) <;> simp only [wq, simprocAttr]
 case refine_2 =>
  have h : fabOk x = false := (Bool.not_eq_true' _).mp h
  refine hK _ ?_
  clear hK K
  try refine vthen_n ?_
  repeat refine VW.seq ?_
  refine VW.cond rfl (fun hc => ?_) (fun hc => ?_)
  ·repeat refine VW.seq ?_
   refine VW.regl hT fun K hK => ?_
   simp only [wq, simprocAttr]
   refine hK _ ?_
   clear hK K
   try refine vthen_n ?_
   refine VW.ret ⟨.inl rfl, _, rfl, ?_⟩
   rw [← hr, h, Bool.false_and]
  ·cases hc
 have hf : fabOk x = true := by
  have := h
  rwa [Bool.not_eq_false'] at this
 rw [hf, Bool.true_and] at hr
 refine hK _ ?_
 clear hK K
 try refine vthen_n ?_
 repeat refine VW.seq ?_
 refine VW.cond rfl (fun hc => ?_) (fun hc => ?_)
 ·have hc : (ks.length : Int) > 40 := of_decide_eq_true hc
  repeat refine VW.seq ?_
  refine VW.regl hT fun K hK => ?_
  simp only [wq, simprocAttr]
  refine hK _ ?_
  clear hK K
  try refine vthen_n ?_
  refine VW.ret ⟨.inl rfl, _, rfl, ?_⟩
  rw [← hr, decide_eq_false (by omega), Bool.false_and]
 have hc : ¬ (ks.length : Int) > 40 := of_decide_eq_false hc
 rw [decide_eq_true (by omega), Bool.true_and] at hr
 refine VW.skip (vthen_n ?_)
 repeat refine VW.seq ?_
 refine VW.regl hT fun K hK => ?_
 simp only [wq, simprocAttr]
 refine vcall_of (hra) ?_
 simp only [wq, simprocAttr]
 refine hK _ ?_
 clear hK K
 try refine vthen_n ?_
 repeat refine VW.seq ?_
 refine VW.regl hT fun K hK => ?_
 simp only [wq, simprocAttr]
 refine vcall_of (l04Ints_vc os ns (by omega)) ?_
 simp only [wq, simprocAttr]
 refine hK _ ?_
 clear hK K
 try refine vthen_n ?_
 refine VW.ret ⟨.inl rfl, _, rfl, ?_⟩
 rw [← hr]
set_option maxRecDepth 40000 in
set_option maxHeartbeats 4000000 in
theorem law_isReplay (x : Fab) (ks : List Ac) (ns : List Int) (w0 : wfS Tryz.prog sFs x) (w1 : wfS Tryz.prog sAL ks) (w2 : wfS Tryz.prog sI ns) : VC Tryz.prog 10 [.v true sFs x, .v false sAL ks, .v false sI ns] (· = .v false .bool true) := by
 have hx := fab_wf w0
 obtain ⟨a1, _⟩ := w1
 rw [show Tryz.prog.bytesOf 77 = 32 by kernel_rfl] at a1
 have a1 : ks.length * 32 ≤ 140737488351232 := a1
 obtain ⟨b1, _⟩ := w2
 rw [show Tryz.prog.bytesOf 3 = 8 by kernel_rfl] at b1
 have b1 : ns.length * 8 ≤ 140737488351232 := b1
 refine VC.of_body hT Tryz.func10 rfl (by kernel_rfl) [(.tmp 6, false, .bool)] (by kernel_rfl) ?_
 show VW _ _ ([.v true sFs x, .v false sAL ks, .v false sI ns, D, D, D, D, D, D, D, D, D, D, D, D, D, D, D, D, D, D, D, D, D, D, D, D, D, D, D, D, D, D, D, D, D, D, D, D, D, D, D, D, D, D, D, D, D, D, D, D, D, D, D, D, D, D, D, D, D, D]) _
 repeat refine VW.seq ?_
 refine VW.regl hT fun K hK => ?_
 simp only [wq, simprocAttr]
 refine hK _ ?_
 clear hK K
 try refine vthen_n ?_
 repeat refine VW.seq ?_
 refine VW.regl hT fun K hK => ?_
 simp only [wq, simprocAttr]
 refine hK _ ?_
 clear hK K
 try refine vthen_n ?_
 repeat refine VW.seq ?_
 refine VW.cond rfl (fun hc => ?_) (fun hc => ?_)
 ·repeat refine VW.seq ?_
  refine VW.regl hT fun K hK => ?_
  simp only [wq, simprocAttr]
  refine hK _ ?_
  clear hK K
  try refine vthen_n ?_
  exact VW.ret ⟨.inl rfl, _, rfl, rfl⟩
 refine VW.skip (vthen_n ?_)
 repeat refine VW.seq ?_
 refine VW.regl hT fun K hK => ?_
 simp only [wq, simprocAttr]
 refine hK _ ?_
 clear hK K
 try refine vthen_n ?_
 repeat refine VW.seq ?_
 refine VW.regl hT fun K hK => ?_
 simp only [wq, simprocAttr]
 refine vcall_ex (szFabric_vc x _ hx (by decide) (by decide)) ?_
 rintro pv ⟨n, rfl, hn1, hn2⟩
 simp only [wq, simprocAttr]
 refine hK _ ?_
 clear hK K
 try refine vthen_n ?_
 repeat refine VW.seq ?_
 refine VW.regl hT fun K hK => ?_
 simp only [wq, simprocAttr]
 refine hK _ ?_
 clear hK K
 try refine vthen_n ?_
 repeat refine VW.seq ?_
 refine VW.cond rfl (fun hc => ?_) (fun hc => ?_)
 ·repeat refine VW.seq ?_
  refine VW.regl hT fun K hK => ?_
  simp only [wq, simprocAttr]
  refine hK _ ?_
  clear hK K
  try refine vthen_n ?_
  exact VW.ret ⟨.inl rfl, _, rfl, rfl⟩
 have hn0 : ¬ (n < 0) := of_decide_eq_false hc
 have hn := hn2 (by omega)
 have hl := fab_small (x := x) (by have : ¬ (n < 0) := of_decide_eq_false hc; omega)
 have hs := fab_s (x := x) (by have : ¬ (n < 0) := of_decide_eq_false hc; omega)
 have hke := kE_pos x
 have hkb := kE_le hs
 refine VW.skip (vthen_n ?_)
 repeat refine VW.seq ?_
 refine VW.regl hT fun K hK => ?_
 simp only [wq, simprocAttr]
 refine vcall_ex (szActS_vc ks n (by omega) (by omega) (by omega)) ?_
 rintro pv ⟨n2, rfl, hm1, hm2⟩
 simp only [wq, simprocAttr]
 refine hK _ ?_
 clear hK K
 try refine vthen_n ?_
 repeat refine VW.seq ?_
 refine VW.regl hT fun K hK => ?_
 simp only [wq, simprocAttr]
 refine hK _ ?_
 clear hK K
 try refine vthen_n ?_
 repeat refine VW.seq ?_
 refine VW.cond rfl (fun hc => ?_) (fun hc => ?_)
 ·repeat refine VW.seq ?_
  refine VW.regl hT fun K hK => ?_
  simp only [wq, simprocAttr]
  refine hK _ ?_
  clear hK K
  try refine vthen_n ?_
  exact VW.ret ⟨.inl rfl, _, rfl, rfl⟩
 have hkl : ks.length ≤ 1048576 := by
  have h2 : ¬ (n2 < 0) := of_decide_eq_false hc
  have := hm2 (by omega)
  omega
 have hir := isReplay_vc x ks ns hl hs.f (by omega) b1
 have his := specIsReplay_vc x ks ns hl hs.f (by omega) b1
 generalize isReplay x ks ns = r at *
 refine VW.skip (vthen_n ?_)
 repeat refine VW.seq ?_
 refine VW.regl hT fun K hK => ?_
 simp only [wq, simprocAttr]
 refine vcall_of (toFabric_vc x hx) ?_
 simp only [wq, simprocAttr]
 refine vcall_of (toActS_vc ks a1) ?_
 simp only [wq, simprocAttr]
 refine vcall_of (toIntS_vc ns b1) ?_
 simp only [wq, simprocAttr]
 refine vcall_of (his) ?_
 simp only [wq, simprocAttr]
 refine hK _ ?_
 clear hK K
 try refine vthen_n ?_
 repeat refine VW.seq ?_
 refine VW.regl hT fun K hK => ?_
 simp only [wq, simprocAttr]
 refine vcall_of (toFabric_vc x hx) ?_
 simp only [wq, simprocAttr]
 refine hK _ ?_
 clear hK K
 try refine vthen_n ?_
 repeat refine VW.seq ?_
 refine VW.regl hT fun K hK => ?_
 simp only [wq, simprocAttr]
 refine vcall_of (toActS_vc ks a1) ?_
 simp only [wq, simprocAttr]
 refine hK _ ?_
 clear hK K
 try refine vthen_n ?_
 repeat refine VW.seq ?_
 refine VW.regl hT fun K hK => ?_
 simp only [wq, simprocAttr]
 refine vcall_of (toIntS_vc ns b1) ?_
 simp only [wq, simprocAttr]
 refine hK _ ?_
 clear hK K
 try refine vthen_n ?_
 repeat refine VW.seq ?_
 refine VW.regl hT fun K hK => ?_
 simp only [wq, simprocAttr]
 refine vcall_of (hir) ?_
 simp only [wq, simprocAttr]
 refine hK _ ?_
 clear hK K
 try refine vthen_n ?_
 repeat refine VW.seq ?_
 refine VW.regl hT fun K hK => ?_
 simp only [wq, simprocAttr]
 refine hK _ ?_
 clear hK K
 try refine vthen_n ?_
 repeat refine VW.seq ?_
 refine VW.cond rfl (fun hc => ?_) (fun hc => ?_)
 ·simp [eqv] at hc
 refine VW.skip (vthen_n ?_)
 repeat refine VW.seq ?_
 refine VW.drawl hT hm (by kernel_rfl) fun K hK => ?_
 simp only [wq, simprocAttr]
 refine ⟨by kernel_rfl, by kernel_rfl, vcallD_of (toFabric_vc x hx) ?_⟩
 simp only [wq, simprocAttr]
 refine ⟨by kernel_rfl, vcallD_of (eqFabric_vc x x hx) ?_⟩
 simp only [wq, simprocAttr]
 refine hK _ ?_
 clear hK K
 try refine vthen_n ?_
 repeat refine VW.seq ?_
 refine VW.cond rfl (fun hc => ?_) (fun hc => ?_)
 ·simp at hc
 refine VW.skip (vthen_n ?_)
 repeat refine VW.seq ?_
 refine VW.regl hT fun K hK => ?_
 simp only [wq, simprocAttr]
 refine vcall_of (toActS_vc ks a1) ?_
 simp only [wq, simprocAttr]
 refine vcall_of (eqActS_vc ks ks a1) ?_
 simp only [wq, simprocAttr]
 refine hK _ ?_
 clear hK K
 try refine vthen_n ?_
 repeat refine VW.seq ?_
 refine VW.cond rfl (fun hc => ?_) (fun hc => ?_)
 ·simp at hc
 refine VW.skip (vthen_n ?_)
 repeat refine VW.seq ?_
 refine VW.regl hT fun K hK => ?_
 simp only [wq, simprocAttr]
 refine vcall_of (toIntS_vc ns b1) ?_
 simp only [wq, simprocAttr]
 refine vcall_of (eqIntS_vc ns ns b1) ?_
 simp only [wq, simprocAttr]
 refine hK _ ?_
 clear hK K
 try refine vthen_n ?_
 repeat refine VW.seq ?_
 refine VW.cond rfl (fun hc => ?_) (fun hc => ?_)
 ·simp at hc
 refine VW.skip (vthen_n ?_)
 repeat refine VW.seq ?_
 refine VW.regl hT fun K hK => ?_
 simp only [wq, simprocAttr]
 refine hK _ ?_
 clear hK K
 try refine vthen_n ?_
 exact VW.ret ⟨.inl rfl, _, rfl, rfl⟩
end Go.Proofs.YtmechjnfeidnkaaGreat.V.W
namespace Go.Proofs.YtmechjnfeidnkaaGreat.V
open Go Go.RowKit
theorem fnExactIsReplay_vc (x : W.Fab) (ks : List W.Ac) (ns : List Int) (w0 : wfS Tryz.prog W.sFs x) (w1 : wfS Tryz.prog W.sAL ks) (w2 : wfS Tryz.prog W.sI ns) : VC Tryz.prog 10 [.v true W.sFs x, .v false W.sAL ks, .v false W.sI ns] (· = .v false .bool true) := W.law_isReplay x ks ns w0 w1 w2
end Go.Proofs.YtmechjnfeidnkaaGreat.V
end
